import Derived.Test.YteccmcpaheepcaaGreatDoorOnce20
import Derived.Test.YteccmcpaheepcaaGreatDoorOnce10
import Derived.Test.YteccmcpaheepcaaGreatDoorOnce09
import Derived.Test.YteccmcpaheepcaaGreatDoorOnce14
import Derived.Test.YteccmcpaheepcaaGreatDoorOnce15
import Derived.Test.YteccmcpaheepcaaGreatDoorOnce19
set_option linter.all false
set_option maxRecDepth 100000
set_option maxHeartbeats 16000000
open Nat renaming reduceLT→yQ,reduceEqDiff→yK,reduceAdd→yV,reduceSub→yY,reduceMul→yU
open Int renaming reduceToNat→yW,reduceLE→yX,reduceEq→yZ,reduceLT→yJ
open Go.Proofs.Tryz renaming prog→qc
open List renaming getElem?_eq_getElem→qd,mem_of_getElem?→qf,replicate→qi,length_replicate→qj,length_singleton→qk,length_filterMap_le→qm,length_map→qo,mem_singleton→qp
open Int renaming toNat_natCast→qe
open Nat renaming sub_zero→qh
namespace Go.Proofs.YteccmcpaheepcaaGreatDoor
open Go.RowKit Abs Stab
theorem tR(M:Mem):Thin M M:=.refl M
theorem may_small{L:List Ext}(h:∀x∈L,JB x=true):SmallE L:=fun x hx=>by
 obtain⟨a,b,c⟩:=Kd (h x hx)
 have:=VQ a
 exact⟨by omega,by omega⟩
theorem vmax(a b:Int):vMin false [.int .i64 a,.int .i64 b]=some (.int .i64 (max a b)):=by
 simp only[vMin,evMin,aMin2]
 by_cases h:a<b
 ·simp[h,Int.max_def];omega
 ·simp[h,Int.max_def];omega
def roomU(o:Option Int):Value:=match o with|none=>.tuple #[.int .i64 0,.bool false]|some a=>.tuple #[.int .i64 a,.bool true]
theorem room_spec(lo hi n:Int)(K:Nat)(M:Mem)(V:Value)(L:List Ext)(h:Vw K M V L)(hl:L.length≤12)(hm:∀x∈L,JB x=true)(hn:1≤n)(hn2:n≤1000)(h0:0≤lo)(h1:lo≤hi)(h2:hi≤2000):
 Abs.Spec qc 58 [.int .i64 lo,.int .i64 hi,.int .i64 n,V] M fun u M'=>u=roomU (roomV lo hi n L)∧More M M':=by
 refine UX Tryz.func58 Tryz.results58 Tryz.ntmps58 fun hc hx k=>?_
 have halE:Qd qc 102=some (.cells false (J6 qc 102) noExt.cells):=al_Ext
 generalize J6 qc 102=s2 at halE
 have aggE:∀x:Ext,(Value.agg x.cells.toArray).cells.toList=x.cells:=fun _=>rfl
 have putE:∀(M0:Mem)(b:Nat)(x y:Ext),Ji 8 M0 b 0 y.cells (some (.cells false s2 x.cells))=some (M0.set b (some (.cells false s2 y.cells))):=fun _ _ _ _=>rfl
 have k2:∀x:Ext,cellIn 2 (some (.cells false s2 x.cells))=some (.int .i64 x.head.n):=fun _=>rfl
 have k7:∀x:Ext,cellIn 7 (some (.cells false s2 x.cells))=some (.int .i64 x.base):=fun _=>rfl
 have q1:decide (n<1)=false:=decide_eq_false (by omega)
 have q2:decide (lo<0)=false:=decide_eq_false (by omega)
 have q3:decide (hi<lo)=false:=decide_eq_false (by omega)
 refine J0 (R0 ?_)
 refine J0 (J0 (R3 @q1 @q2 @q3 ?_))
 refine CF (J3 ?_)
 simp only[zZ,reduceIte,yQ,yW,yX,yZ,yJ,yK,yV]
 refine J0 (R0 ?_)
 refine⟨by kernel_rfl,_,eclone_spec K M V L h (by omega),?_⟩
 rintro W M1 ⟨hW,ho1,hs1⟩
 refine S0 ?_
 have so:=sorte_own M.size M1 W L hW hl (may_small hm)
 unfold cmpE at so
 refine J0 (R0 ?_)
 refine⟨by kernel_rfl,_,so,?_⟩
 rintro _ M2 ⟨rfl,⟨R,hR,hW2⟩,hold2,hs2⟩
 have mo2:More M M2:=⟨fun b y hb=>hold2 b y (fun e=>by have:=(hW.live e).1;have:=Mem.get_lt hb;omega) (ho1 b y (by simp) hb),by omega⟩
 have hRm:∀x∈R,JB x=true:=fun x hx=>hm x ((hR.mem Vo x).1 hx)
 have hRl:R.length≤12:=by rw[hR.len];exact hl
 obtain⟨a0,c0,hV⟩:=hW2.len
 subst hV
 refine S0 ?_
 refine J0 (R0 ?_)
 refine QR (fun f M'=>f=[(0,.int .i64 lo),(1,.int .i64 hi),(2,.int .i64 n),(11,.int .i64 (Xe n lo R))]∧0≤Xe n lo R∧Xe n lo R≤3000∧More M M') ?_ ?_
 ·refine J0 (R0 ?_)
  refine J8 (Jt (fun j f M'=>∃(i:Nat)(a:Int),j=R.length-i∧f=[(0,.int .i64 lo),(1,.int .i64 hi),(2,.int .i64 n),(11,.int .i64 a),(30,.slice a0 R.length c0),(31,.int .i64 (R.length:Nat)),(32,.int .i64 (i:Nat))]∧i≤R.length∧Xe n a (R.drop i)=Xe n lo R∧0≤a∧a≤3000∧More M2 M') R.length ?_ ?_)
  ·refine JK [0,1,2,11,30,31,32] ?_
   exact⟨M2,tR _,0,lo,rfl,rfl,by omega,rfl,h0,by omega,More.refl _⟩
  ·rintro j f M' ⟨i,a,rfl,rfl,hi',hgr,ha0,ha1,hmo⟩
   refine J0 (R0 ?_)
   refine J0 (CC (decide ((i:Int)<(R.length:Int))) (fun hq=>J3 ?_) (fun hq=>Jp ?_))
   ·have hin:=of_decide_eq_true hq
    obtain⟨x,hX⟩:∃x,R[i]?=some x:=⟨_,qd (by omega)⟩
    obtain⟨g,rfl,_,hg⟩:=hW2.at hX
    have hdrop:R.drop i=x::R.drop (i+1):=by
     have hil:i<R.length:=by omega
     rw[qd hil]at hX
     cases hX
     exact List.drop_eq_getElem_cons hil
    rw[hdrop,Xe]at hgr
    obtain⟨hok,hb0,hb1⟩:=Kd (hRm x (qf hX))
    have hn3:=VQ hok
    have z0:(0:Int)≤(i:Int):=by omega
    have r1:=ext_row hX 8
    have gg:=hmo.get _ _ hg
    have ws:IntKind.i64.wrap (x.base-a)=x.base-a:=Xl (by omega) (by omega)
    have wa:IntKind.i64.wrap (x.base+x.head.n)=x.base+x.head.n:=Xl (by omega) (by omega)
    have w9:IntKind.i64.wrap ((i:Int)+1)=((i+1:Nat):Int):=by rw[Xl (by omega) (by omega)];omega
    obtain⟨M5,hM5⟩:∃M5,M5=(M'.push (.cells false s2 noExt.cells)).set M'.size (some (.cells false s2 x.cells)):=⟨_,rfl⟩
    obtain⟨b13,hb13⟩:∃b,b=M'.size:=⟨_,rfl⟩
    have g13:M5.get b13=some (.cells false s2 x.cells):=by rw[hM5,hb13];exact Mem.get_set_same (Mem.get_push_new _ _) _
    have mo5:More M' M5:=⟨fun b x hb=>by
     have:=Mem.get_lt hb
     rw[hM5,Mem.get_set_ne (by omega),Mem.get_push_old this];exact hb,by rw[hM5,Mem.size_set,Mem.size_push];omega⟩
    simp only[zZ,reduceIte,yQ,yW,yX,yZ,yJ,yK,yV]
    refine J0 (J8 (J0 (J1 ?_)))
    simp only[zZ,reduceIte,yQ,yW,yX,yZ,yJ,yK,yV,zDk,Jc,Jb,Ja,J9,XQ,z0,hin,and_self,qe,gg,r1,halE,Mem.get_push_new,aggE,putE]
    rw[←hM5,←hb13]
    refine J0 (J0 (R3 @g13 @k7 @ws ?_))
    refine CC (decide (n≤x.base-a)) (fun hq=>Jp ?_) (fun hq=>J3 ?_)
    ·rw[if_pos (of_decide_eq_true hq)]at hgr
     refine JK [0,1,2,11] ?_
     exact⟨_,tR _,by rw[hgr],by omega,by omega,(mo2.trans hmo).trans mo5⟩
    ·rw[if_neg (of_decide_eq_false hq)]at hgr
     simp only[zZ,reduceIte,yQ,yW,yX,yZ,yJ,yK,yV]
     refine R5 @g13 @k7 @k2 @wa @vmax ?_
     refine R1 @w9 ?_
     refine JK [0,1,2,11,30,31,32] ?_
     exact⟨_,tR _,R.length-(i+1),⟨i+1,max a (x.base+x.head.n),rfl,rfl,by omega,hgr,by omega,by omega,hmo.trans mo5⟩,by omega⟩
   ·have hin:=of_decide_eq_false hq
    rw[List.drop_of_length_le (by omega),Xe]at hgr
    refine JK [0,1,2,11] ?_
    exact⟨_,tR _,by rw[hgr],by omega,by omega,mo2.trans hmo⟩
 rintro _ M3 ⟨rfl,ha0,ha1,mo3⟩
 have hrv:=roomV_greedy lo hi n L R hn h0 h1 (fun x=>hR.mem Vo x) hR.rising
 have ws:IntKind.i64.wrap (hi-Xe n lo R)=hi-Xe n lo R:=Xl (by omega) (by omega)
 refine J0 (J0 (R1 @ws ?_))
 refine CC (decide (n>hi-Xe n lo R)) (fun hq=>J0 (J1 ?_)) (fun hq=>J3 ?_)
 ·rw[if_pos (of_decide_eq_true hq)]at hrv
  refine S0 ?_
  refine T0 ?_
  exact⟨_,tR _,by rw[hrv];rfl,mo3⟩
 ·rw[if_neg (of_decide_eq_false hq)]at hrv
  simp only[zZ,reduceIte,yQ,yW,yX,yZ,yJ,yK,yV]
  refine J0 (R0 ?_)
  refine T0 ?_
  exact⟨_,tR _,by rw[hrv];rfl,mo3⟩
end Go.Proofs.YteccmcpaheepcaaGreatDoor
namespace Go.Proofs.YteccmcpaheepcaaGreatDoor
open Go.RowKit Abs
def chainH:List Bool→Option Bool
 | []=>some true
 |b::r=>match some b with
  |some true=>chainH r
  |some false=>some false
  |none=>none
theorem chainH_eq:∀l:List Bool,chainH l=some (l.all id)
 | []=>rfl
 |true::r=>by simp[chainH,chainH_eq r]
 |false::r=>by simp[chainH]
def sameH(x y:Header):Bool:=[x.id==y.id,beqB x.salt y.salt,x.n==y.n,x.bytes==y.bytes,x.raw==y.raw,beqB x.root y.root,beqB x.tag y.tag].all id
theorem sameH_iff(x y:Header):sameH x y=true↔x=y:=by
 obtain⟨a0,a1,a2,a3,a4,a5,a6⟩:=x
 obtain⟨b0,b1,b2,b3,b4,b5,b6⟩:=y
 unfold sameH
 simp only[List.all_cons,List.all_nil,id,Bool.and_true,Bool.and_eq_true,beq_iff_eq,decide_eq_true_eq,Header.mk.injEq,beqB_dec]
theorem sameH_self(x:Header):sameH x x=true:=(sameH_iff x x).2 rfl
theorem hdr_neq(cx:Bool)(x y:Header):aBin qc .neq 33 cx (.agg x.cells.toArray) (.agg y.cells.toArray)=some (.bool (!sameH x y)):=by
 obtain⟨a0,a1,a2,a3,a4,a5,a6⟩:=x
 obtain⟨b0,b1,b2,b3,b4,b5,b6⟩:=y
 have e0:aBin qc .neq 33 cx (.agg (Header.cells ⟨a0,a1,a2,a3,a4,a5,a6⟩).toArray) (.agg (Header.cells ⟨b0,b1,b2,b3,b4,b5,b6⟩).toArray)=(chainH [a0==b0,beqB a1 b1,a2==b2,a3==b3,a4==b4,beqB a5 b5,beqB a6 b6]).map fun b=>.bool (!b):=by cases cx<;>kernel_rfl
 rw[e0,chainH_eq,Option.map_some]
 rfl
theorem roomGo_in(n:Int)(l:List Ext):∀(k:Nat)(at' b:Int),roomGo n l k at'=some b→at'≤b∧b<at'+k
 |0,_,_,h=>by cases h
 |k+1,at',b,h=>by
  unfold roomGo at h
  split at h
  ·cases h;omega
  ·have:=roomGo_in n l k (at'+1) b h;omega
theorem roomV_in{lo hi n b:Int}{l:List Ext}(h:roomV lo hi n l=some b):lo≤b∧b+n≤hi:=by
 unfold roomV at h
 split at h
 ·cases h
 ·have:=roomGo_in n l _ _ b h;omega
theorem begin_rest{d:Dsk}{D:Dep}{h:Header}{i:Nat}{base:Int}{W Y:Dsk×Int}(hW:W=d.write ((1+i:Nat):Int) (JW ⟨⟨h,base⟩,qi h.n.toNat false⟩))(hY:Y=W.1.sync):
 Dep.begun d D h i base=(if W.2≠0 then(W.1,D,W.2)else if Y.2≠0 then(Y.1,D,Y.2)else(Y.1,{ D with opn:=D.opn.set i (some ⟨⟨h,base⟩,qi h.n.toNat false⟩) },0)):=by subst hW hY;rfl
theorem free_in{α:Type}:∀(l:List (Option α))(k i:Nat),QZ l k=some i→k≤i∧i<k+l.length
 | [],k,i,h=>by cases h
 |none::r,k,i,h=>by unfold QZ at h;cases h;simp
 |some a::r,k,i,h=>by
  unfold QZ at h
  have:=free_in r (k+1) i h
  simp only[List.length_cons]
  omega
theorem places_len{D:Dep}{n:Nat}(h:D.Ok n):D.places.length≤12:=by
 unfold Dep.places Qq
 have h2:=qm id D.kept
 have h3:=qm id D.opn
 rw[h.kept]at h2
 rw[h.opn]at h3
 rw[List.length_append,qo];omega
theorem verify_ok{h:Header}{key:List UInt8}(hv:h.verify key=0):h.okP:=(h.check_zero).1 (by
 unfold Header.verify at hv
 split at hv
 ·exact absurd hv (by decide)
 ·rename_i h1
  exact(Vf _).resolve_right h1)
theorem begin_spec(P p q g:Nat)(d:Dsk)(D:Dep)(hd:Header)(M:Mem)(h:DepAt M P p q g d D)(hkey:D.key.length≤1000000)(h13:13≤d.old.length):
 Abs.Spec qc 16 [.pointer (some ⟨P,0,none⟩),.agg hd.cells.toArray] M fun u M'=>u=.int .i64 (Dep.begin d D hd).2.2∧DepAt M' P p q g (Dep.begin d D hd).1 (Dep.begin d D hd).2.1∧Only [P,p,q,g] M M'∧M.size≤M'.size:=by
 obtain⟨Z,hZ⟩:∃Z,Z=Dep.begin d D hd:=⟨_,rfl⟩
 rw[←hZ]
 unfold Dep.begin at hZ
 have hlen0:=h.dsk.ok.n
 refine WM Tryz.func16 Tryz.results16 Tryz.ntmps16 fun _=>?_
 have bx:QS qc 33 (.agg hd.cells.toArray)=some (.cells false (J6 qc 33) hd.cells):=bx_Hdr _ rfl
 have halH:Qd qc 33=some (.cells false (J6 qc 33) noHead.cells):=al_Hdr
 generalize J6 qc 33=s1 at bx halH
 have halR:Qd qc 132=some (.cells false (J6 qc 132) noRec.cells):=al_Rec
 generalize J6 qc 132=s2 at halR
 have row7:∀(s:Nat)(x:Header),Jv 7 0 (some (.cells false s x.cells))=some (.agg x.cells.toArray):=fun _ _=>rfl
 have k0:∀(s:Nat)(x:Header),cellIn 0 (some (.cells false s x.cells))=some (.int .i64 x.id):=fun _ _=>rfl
 have agg7:∀x:Header,(Value.agg x.cells.toArray).cells.toList=x.cells:=fun _=>rfl
 have put7:∀(M0:Mem)(b:Nat)(x y:Header),Ji 7 M0 b 0 y.cells (some (.cells false s1 x.cells))=some (M0.set b (some (.cells false s1 y.cells))):=fun _ _ _ _=>rfl
 have row13:∀(s:Nat)(x:Rec),Jv 13 0 (some (.cells false s x.cells))=some (.agg x.cells.toArray):=fun _ _=>rfl
 have agg13:∀x:Rec,(Value.agg x.cells.toArray).cells.toList=x.cells:=fun _=>rfl
 have put13:∀(M0:Mem)(b:Nat)(x y:Rec),Ji 13 M0 b 0 y.cells (some (.cells false s2 x.cells))=some (M0.set b (some (.cells false s2 y.cells))):=fun _ _ _ _=>rfl
 have bdX:∀b:Int,Qo qc 102 [(0,.agg hd.cells.toArray),(1,.int .i64 b)]=some (.agg (⟨hd,b⟩:Ext).cells.toArray):=fun b=>by kernel_rfl
 have bdR:∀(x:Ext)(l:List Bool),Qo qc 132 [(0,.agg x.cells.toArray),(1,Xh l)]=some (.agg (⟨x,l⟩:Rec).cells.toArray):=fun x l=>by kernel_rfl
 obtain⟨b3,hb3⟩:∃b,b=M.size:=⟨_,rfl⟩
 obtain⟨M1,hM1⟩:∃M1,M1=M.push (.cells false s1 hd.cells):=⟨_,rfl⟩
 have mo1:More M M1:=by rw[hM1];exact More.push _ _
 have g3:M1.get b3=some (.cells false s1 hd.cells):=by rw[hM1,hb3,Mem.get_push_new]
 have h1:=h.same mo1.get
 obtain⟨s,vo,vk,hrow,ho,hk⟩:=h1.row
 have l4:vo.length=4:=by rw[ho.len,h1.ok.opn]
 have c0:∀s vo vk,cellIn 0 (some (.cells false s (JQ p D vo vk)))=some (dp p):=fun _ _ _=>rfl
 have c1:∀s vo vk,cellIn 1 (some (.cells false s (JQ p D vo vk)))=some (.string (str D.key)):=fun _ _ _=>rfl
 have out:∀M':Mem,More M M'→Only [P,p,q,g] M M':=fun M' hm b x _ hb=>hm.get b x hb
 have tail3:∀{M' M'':Mem},Only [p,q,g] M' M''→Only [P,p,q,g] M' M'':=fun h=>h.mono (by simp)
 refine J0 (R1 @bx ?_)
 rw[←hM1,←hb3]
 refine J0 (J0 (R0 ?_))
 refine CF (J3 ?_)
 refine S0 ?_
 refine J0 (J0 (R2 @hrow @c0 ?_))
 refine K0 (dead_spec _ p q g d h1.dsk) ?_
 cases hdd:d.dead with
 |true=>
  rw[if_pos hdd]at hZ
  refine CT (J0 (R0 ?_))
  refine T0 ?_
  subst hZ
  exact⟨_,tR _,rfl,h1,out _ mo1,by have:=mo1.size;omega⟩
 |false=>
 rw[if_neg (by rw[hdd];decide)]at hZ
 refine CF (J3 ?_)
 refine S0 ?_
 refine J0 (J0 (D4 5 @hrow @c1 @g3 @row7 ?_))
 refine K0 (hverify_at D.key (by omega) hd _) ?_
 refine J0 (R0 ?_)
 refine CC (hd.verify D.key !=0) (fun hq=>J0 (R0 ?_)) (fun hq=>J3 ?_)
 ·rw[if_pos (by simpa using hq)]at hZ
  refine T0 ?_
  subst hZ
  exact⟨_,tR _,rfl,h1,out _ mo1,by have:=mo1.size;omega⟩
 have hv:hd.verify D.key=0:=by simpa using hq
 rw[if_neg (by simpa using hq)]at hZ
 have hok:=verify_ok hv
 have hn2:=VQ hok
 refine S0 ?_
 refine J0 (J0 (R2 @g3 @k0 ?_))
 refine⟨by kernel_rfl,_,head_spec P p q g d (some D) _ hd.id M1 ⟨rfl,h1⟩,?_⟩
 rintro _ M2 ⟨rfl,mo2⟩
 have he:headOr (some D) hd.id=D.headAt hd.id:=rfl
 rw[he]
 obtain⟨X,hX⟩:∃X,X=D.headAt hd.id:=⟨_,rfl⟩
 rw[←hX]at hZ ⊢
 refine S4 @halH @Mem.get_push_new @agg7 @put7 ?_
 obtain⟨b6,hb6⟩:∃b,b=M2.size:=⟨_,rfl⟩
 obtain⟨M3,hM3⟩:∃M3,M3=(M2.push (.cells false s1 noHead.cells)).set M2.size (some (.cells false s1 X.1.cells)):=⟨_,rfl⟩
 rw[←hM3,←hb6]
 have g6:M3.get b6=some (.cells false s1 X.1.cells):=by rw[hM3,hb6];exact Mem.get_set_same (Mem.get_push_new _ _) _
 have mo3:More M2 M3:=⟨fun b x hb=>by
  have:=Mem.get_lt hb
  rw[hM3,Mem.get_set_ne (by omega),Mem.get_push_old this];exact hb,by rw[hM3,Mem.size_set,Mem.size_push];omega⟩
 have mo13:=mo2.trans mo3
 have mo03:=mo1.trans mo13
 have h3:=h1.same mo13.get
 have g33:=mo13.get _ _ g3
 have hrow3:=mo13.get _ _ hrow
 refine J0 (R0 ?_)
 refine CC (X.2.2==0) (fun hq=>J0 (J0 (J1 ?_))) (fun hq=>J3 ?_)
 ·rw[if_pos (by simpa using hq)]at hZ
  have hne:=hdr_neq
  refine S4 @g6 @g33 @row7 @hne ?_
  refine CC (!sameH X.1 hd) (fun hq=>J0 (R0 ?_)) (fun hq=>J3 ?_)
  ·refine T0 ?_
   rw[if_neg (fun e=>by rw[e,sameH_self]at hq;cases hq)]at hZ
   subst hZ
   exact⟨_,tR _,rfl,h3,out _ mo03,by have:=mo03.size;omega⟩
  refine S0 ?_
  refine J0 (R0 ?_)
  refine T0 ?_
  rw[if_pos ((sameH_iff _ _).1 (by simpa using hq))]at hZ
  subst hZ
  exact⟨_,tR _,rfl,h3,out _ mo03,by have:=mo03.size;omega⟩
 rw[if_neg (by simpa using hq)]at hZ
 have fr:=freerec_spec P 3 s 4 _ M3 _ vo D.opn hrow3 (fun i v hv=>by
  have:=(List.getElem?_eq_some_iff.1 hv).1
  rw[depC_opn _ _ _ _ l4 _ (by omega)];exact hv) (ho.same fun b x _ hb=>mo13.get b x hb) (by rw[h3.ok.opn];decide)
 rw[h3.ok.opn]at fr
 refine S0 ?_
 refine J0 (R2 @hrow3 @sl_A4 ?_)
 refine K0 (fr) ?_
 cases hF:QZ D.opn 0 with
 |none=>
  rw[hF]at hZ
  have e1:freeI (none:Option Nat)= -1:=rfl
  have q1:decide ((-1:Int)<0)=true:=rfl
  rw[e1]
  refine J0 (J0 (R1 @q1 ?_))
  refine CT (J0 (R0 ?_))
  refine T0 ?_
  subst hZ
  exact⟨_,tR _,rfl,h3,out _ mo03,by have:=mo03.size;omega⟩
 |some i=>
 rw[hF]at hZ
 have hi4:i<4:=by have:=(free_in _ _ _ hF).2;rw[h3.ok.opn]at this;omega
 have e1:freeI (some i)=(i:Int):=rfl
 have q1:decide ((i:Int)<0)=false:=decide_eq_false (by omega)
 rw[e1]
 refine J0 (J0 (R1 @q1 ?_))
 refine CF (J3 ?_)
 have k2:∀(s:Nat),cellIn 2 (some (.cells false s hd.cells))=some (.int .i64 hd.n):=fun _=>rfl
 refine S0 ?_
 refine J0 (CW_drawnG hmix [(9,10),(14,15)] (by kernel_rfl) ?_)
 simp only[zZ,reduceIte,yQ,yW,yX,yZ,yJ,yK,yV,zDk,Jc,Jb,Ja,J9,XQ,XN,JM,Qc,QB,isVal,sGuardedV,JJ,Q1,yY,qh,hrow3,c0,g33,k2]
 refine⟨by kernel_rfl,_,[],at0 (dlen_spec _ p q g d h3.dsk),rfl,?_⟩
 simp only[zZ,reduceIte,yQ,yW,yX,yZ,yJ,yK,yV,zDk,Jc,Jb,Ja,J9,XQ,XN,JM,Qc,QB,isVal,sGuardedV,JJ,Q1,yY,qh,hrow3,c0,g33,k2]
 obtain⟨V,N,pe,pN,hown⟩:=places_exact P p q g d D M3 h3
 have mo4:More M3 (M3.app N):=⟨fun b x hb=>ZO M3 N b x hb,by rw[UU];omega⟩
 refine⟨by kernel_rfl,_,N,pe,pN,?_⟩
 simp only[zZ,reduceIte,yQ,yW,yX,yZ,yJ,yK,yV,zDk,Jc,Jb,Ja,J9,XQ,XN,JM,Qc,QB,isVal,sGuardedV,JJ,Q1,yY,qh]
 refine⟨by kernel_rfl,_,room_spec 13 (d.old.length:Nat) hd.n _ _ V D.places hown (places_len h3.ok) (fun y hy=>fit_may (h3.ok.fit y hy) hlen0) (by omega) (by omega) (by omega) (by omega) (by omega),?_⟩
 rintro _ M5 ⟨rfl,mo5⟩
 have mo35:=mo4.trans mo5
 have mo05:=mo03.trans mo35
 have h5:=h3.same mo35.get
 have g35:=mo35.get _ _ g33
 cases hR:roomV 13 (d.old.length:Nat) hd.n D.places with
 |none=>
  rw[hR]at hZ
  have e2:roomU none=.tuple #[.int .i64 0,.bool false]:=rfl
  rw[e2]
  simp only[zZ,reduceIte,yQ,yW,yX,yZ,yJ,yK,yV,zDk,Jc,Jb,Ja,J9,XQ,XN,JM,Qc,QB,isVal,sGuardedV,JJ,Q1,yY,qh]
  refine J0 (J0 (R0 ?_))
  refine CT (J0 (R0 ?_))
  refine T0 ?_
  subst hZ
  exact⟨_,tR _,rfl,h5,out _ mo05,by have:=mo05.size;omega⟩
 |some base=>
 rw[hR]at hZ
 have e2:roomU (some base)=.tuple #[.int .i64 base,.bool true]:=rfl
 rw[e2]
 simp only[zZ,reduceIte,yQ,yW,yX,yZ,yJ,yK,yV,zDk,Jc,Jb,Ja,J9,XQ,XN,JM,Qc,QB,isVal,sGuardedV,JJ,Q1,yY,qh]
 refine J0 (J0 (R0 ?_))
 refine CF (J3 ?_)
 obtain⟨rb0,rb1⟩:=roomV_in hR
 have hfit:fitX D.key d.old.length ⟨hd,base⟩:=⟨hv,rb0,rb1⟩
 have hmx:JB ⟨hd,base⟩=true:=fit_may hfit hlen0
 obtain⟨nn,hnn⟩:∃nn:Nat,hd.n=(nn:Int):=⟨hd.n.toNat,by omega⟩
 have k2':∀(s:Nat),cellIn 2 (some (.cells false s hd.cells))=some (.int .i64 (nn:Nat)):=fun _=>by rw[←hnn];rfl
 obtain⟨R,hRe⟩:∃R:Rec,R=⟨⟨hd,base⟩,qi nn false⟩:=⟨_,rfl⟩
 have hRm:R.may=true:=by
  rw[hRe]
  unfold Rec.may
  simp only[hmx,qj,hnn,Bool.true_and]
  simp
 obtain⟨W,hW⟩:∃W,W=d.write ((1+i:Nat):Int) (JW R):=⟨_,rfl⟩
 obtain⟨Y,hY⟩:∃Y,Y=W.1.sync:=⟨_,rfl⟩
 have hRn:(⟨⟨hd,base⟩,qi hd.n.toNat false⟩:Rec)=R:=by rw[hRe,hnn];rfl
 simp only at hZ
 rw[begin_rest (by rw[hRn];exact hW) hY,hRn]at hZ
 have hlen:W.1.old.length=d.old.length:=by rw[hW];exact QH _ _ _
 have hlen2:Y.1.old.length=W.1.old.length:=by rw[hY];exact sync_len _
 refine S0 ?_
 refine J0 (D4 8 @g35 @row7 @k2' @bdX ?_)
 refine⟨by kernel_rfl,_,bnew_at nn (by omega) _,?_⟩
 have bdR':=bdR ⟨hd,base⟩ (qi nn false)
 rw[←hRe]at bdR'
 refine S5 @bdR' @halR @Mem.get_push_new @agg13 @put13 ?_
 obtain⟨b12,hb12⟩:∃b,b=M5.size:=⟨_,rfl⟩
 obtain⟨M6,hM6⟩:∃M6,M6=(M5.push (.cells false s2 noRec.cells)).set M5.size (some (.cells false s2 R.cells)):=⟨_,rfl⟩
 rw[←hM6,←hb12]
 have g12:M6.get b12=some (.cells false s2 R.cells):=by rw[hM6,hb12];exact Mem.get_set_same (Mem.get_push_new _ _) _
 have mo6:More M5 M6:=⟨fun b x hb=>by
  have:=Mem.get_lt hb
  rw[hM6,Mem.get_set_ne (by omega),Mem.get_push_old this];exact hb,by rw[hM6,Mem.size_set,Mem.size_push];omega⟩
 have mo06:=mo05.trans mo6
 have hs6:=mo06.size
 have h6:=h5.same mo6.get
 have nP:b12∉ [P,p,q,g]:=by
  obtain⟨_,_,_,e,_⟩:=h5.row
  have l1:=Mem.get_lt e
  obtain⟨_,e⟩:=h5.dsk.row
  have l2:=Mem.get_lt e
  have l3:=Mem.get_lt h5.dsk.kv
  have l4:=Mem.get_lt h5.dsk.old
  simp only[List.mem_cons,List.not_mem_nil,or_false]
  omega
 have nP':b12∉ [p,q,g]:=fun h=>nP (by simp at h ⊢;exact .inr h)
 have ns:=note_spec P p q g d D M6 h6 i hi4 R hRm
 rw[←hW]at ns
 refine J0 (J0 (R2 @g12 @row13 ?_))
 refine⟨by kernel_rfl,_,ns,?_⟩
 rintro _ M7 ⟨rfl,h7,ho7,hs7⟩
 have o7:Only [P,p,q,g] M M7:=(out _ mo06).trans (tail3 ho7)
 refine S0 ?_
 refine J0 (R0 ?_)
 refine CC (W.2 !=0) (fun hq=>J0 (R0 ?_)) (fun hq=>J3 ?_)
 ·rw[if_pos (by simpa using hq)]at hZ
  refine T0 ?_
  subst hZ
  exact⟨_,tR _,rfl,h7,o7,by omega⟩
 rw[if_neg (by simpa using hq)]at hZ
 obtain⟨s7,vo7,vk7,hrow7,ho7r,hk7⟩:=h7.row
 refine S0 ?_
 refine J0 (J0 (R2 @hrow7 @c0 ?_))
 refine⟨by kernel_rfl,_,sync_spec _ p q g W.1 h7.dsk,?_⟩
 rintro _ M8 ⟨rfl,hd8,ho8,hs8⟩
 rw[←hY]at hd8 ⊢
 have h8:=h7.disk hd8 hlen2 ho8
 have o8:=o7.trans (tail3 ho8)
 refine S0 ?_
 refine J0 (R0 ?_)
 refine CC (Y.2 !=0) (fun hq=>J0 (R0 ?_)) (fun hq=>J3 ?_)
 ·rw[if_pos (by simpa using hq)]at hZ
  refine T0 ?_
  subst hZ
  exact⟨_,tR _,rfl,h8,o8,by omega⟩
 rw[if_neg (by simpa using hq)]at hZ
 obtain⟨s8,vo8,vk8,hrow8,ho8r,hk8⟩:=h8.row
 have l48:vo8.length=4:=by rw[ho8r.len,h8.ok.opn]
 have l88:vk8.length=8:=by rw[hk8.len,h8.ok.kept]
 have ln:=VX p D vo8 vk8 l48 l88
 have z0:(0:Int)≤(i:Int):=by omega
 have z8:(i:Int)<((4:Nat):Int):=by omega
 have z8':(i:Int)<4:=by omega
 have g128:M8.get b12=some (.cells false s2 R.cells):=ho8 _ _ nP' (ho7 _ _ nP' g12)
 have hput:Ji 1 M8 P (3+i) [.pointer (some ⟨b12,0,none⟩)] (some (.cells false s8 (JQ p D vo8 vk8)))=some (M8.set P (some (.cells false s8 ((JQ p D vo8 vk8).set (3+i) (.pointer (some ⟨b12,0,none⟩)))))):=by
  simp only[Ji]
  rw[if_pos ⟨rfl,by show 3+i+1≤(JQ p D vo8 vk8).length;omega,rfl⟩]
  rfl
 have hfin:=h8.turnO ho8r hk8 hrow8 i hi4 (some R) (fun y hy=>by cases hy;rw[hRe];exact⟨by rw[hlen2,hlen];exact hfit,by rw[qj];exact hnn.symm⟩) (.pointer (some ⟨b12,0,none⟩)) ⟨b12,s2,nP,rfl,g128⟩
 refine S0 ?_
 refine J0 (R7 @hrow8 @z0 @z8 @z8' @and_self @qe @hput ?_)
 refine J0 (R0 ?_)
 refine T0 ?_
 subst hZ
 exact⟨_,tR _,rfl,hfin,o8.trans (Only.set (by simp) _),by rw[Mem.size_set];omega⟩
theorem blocksD_len(d:Dsk)(x:Ext):(Xv d x).1.length≤x.head.n.toNat:=by
 unfold Xv
 split
 ·simp
 ·simp
theorem blocksD_size(d:Dsk)(x:Ext):∀b∈(Xv d x).1,b.length≤224:=by
 unfold Xv
 split
 ·intro b hb;simp at hb
 ·intro b hb
  obtain⟨i,_,rfl⟩:=List.mem_map.1 hb
  rw[List.length_take];omega
theorem commit_spec(P p q g:Nat)(d:Dsk)(D:Dep)(id:Int)(M:Mem)(h:DepAt M P p q g d D):
 Abs.Spec qc 25 [.pointer (some ⟨P,0,none⟩),.int .i64 id] M fun u M'=>u=.int .i64 (Dep.commit d D id).2.2∧DepAt M' P p q g (Dep.commit d D id).1 (Dep.commit d D id).2.1∧Only [P,p,q,g] M M'∧M.size≤M'.size:=by
 obtain⟨Z,hZ⟩:∃Z,Z=Dep.commit d D id:=⟨_,rfl⟩
 rw[←hZ]
 unfold Dep.commit at hZ
 have hlen0:=h.dsk.ok.n
 refine WM Tryz.func25 Tryz.results25 Tryz.ntmps25 fun _=>?_
 have halX:Qd qc 102=some (.cells false (J6 qc 102) noExt.cells):=al_Ext
 generalize J6 qc 102=s1 at halX
 have rowX:∀(s:Nat)(x:Rec),Jv 8 0 (some (.cells false s x.cells))=some (.agg x.x.cells.toArray):=fun _ _=>rfl
 have rowS:∀(s:Nat)(x:Rec),Jv 5 8 (some (.cells false s x.cells))=some (Xh x.got):=fun _ _=>rfl
 have row8:∀(s:Nat)(x:Ext),Jv 8 0 (some (.cells false s x.cells))=some (.agg x.cells.toArray):=fun _ _=>rfl
 have k5:∀(s:Nat)(x:Ext),cellIn 5 (some (.cells false s x.cells))=some (.string x.head.root):=fun _ _=>rfl
 have agg8:∀x:Ext,(Value.agg x.cells.toArray).cells.toList=x.cells:=fun _=>rfl
 have put8:∀(M0:Mem)(b:Nat)(x y:Ext),Ji 8 M0 b 0 y.cells (some (.cells false s1 x.cells))=some (M0.set b (some (.cells false s1 y.cells))):=fun _ _ _ _=>rfl
 have c0:∀s (D':Dep) vo vk,cellIn 0 (some (.cells false s (JQ p D' vo vk)))=some (dp p):=fun _ _ _ _=>rfl
 have out:∀M':Mem,More M M'→Only [P,p,q,g] M M':=fun M' hm b x _ hb=>hm.get b x hb
 have tail3:∀{M' M'':Mem},Only [p,q,g] M' M''→Only [P,p,q,g] M' M'':=fun h=>h.mono (by simp)
 refine J0 (R0 ?_)
 refine J0 (R0 ?_)
 refine⟨by kernel_rfl,_,find_spec P p q g d D id M h,?_⟩
 rintro _ M1 ⟨rfl,mo1⟩
 have h1:=h.same mo1.get
 have hs1:=mo1.size
 obtain⟨s,vo,vk,hrow,ho,hk⟩:=h1.row
 refine S0 ?_
 refine J0 (J8 (J0 (R2 @hrow @c0 ?_)))
 refine K0 (dead_spec _ p q g d h1.dsk) ?_
 cases hdd:d.dead with
 |true=>
  rw[if_pos hdd]at hZ
  refine CT (J0 (R0 ?_))
  refine T0 ?_
  subst hZ
  exact⟨_,tR _,rfl,h1,out _ mo1,hs1⟩
 |false=>
 rw[if_neg (by rw[hdd];decide)]at hZ
 refine CF (J0 (J1 ?_))
 cases hE:D.ext? id with
 |some y=>
  obtain⟨j,y⟩:=y
  rw[hE]at hZ
  have q1:decide ((j:Int)≥0)=true:=by simp
  simp only[V9]
  refine S1 @q1 ?_
  refine CT (J0 (R0 ?_))
  refine T0 ?_
  subst hZ
  exact⟨_,tR _,rfl,h1,out _ mo1,hs1⟩
 |none=>
 rw[hE]at hZ
 have q1:decide ((-1:Int)≥0)=false:=rfl
 simp only[Va]
 refine S1 @q1 ?_
 refine CF (J0 (J1 ?_))
 cases hR:D.rec? id with
 |none=>
  rw[hR]at hZ
  have q2:decide ((-1:Int)<0)=true:=rfl
  simp only[Va]
  refine S1 @q2 ?_
  refine CT (J0 (R0 ?_))
  refine T0 ?_
  subst hZ
  exact⟨_,tR _,rfl,h1,out _ mo1,hs1⟩
 |some y=>
 obtain⟨j,r⟩:=y
 rw[hR]at hZ
 simp only at hZ
 obtain⟨hj,b,s',r1,hbK,gb⟩:=h1.recAt (ZI hR).1
 have fit:=h1.ok.fitO r (qf (ZI hR).1)
 obtain⟨fv,fb0,fb1,fgl⟩:=fit
 have hn2:=VQ (verify_ok fv)
 have hfit:fitX D.key d.old.length r.x:=⟨fv,fb0,fb1⟩
 have hmx:JB r.x=true:=fit_may hfit hlen0
 have gl:r.got.length≤256:=by omega
 have q2:decide ((j:Int)<0)=false:=decide_eq_false (by omega)
 have z0:(0:Int)≤(j:Int):=by omega
 have z8:(j:Int)<((4:Nat):Int):=by omega
 have z8':(j:Int)<4:=by omega
 rw[hrow]at r1
 simp only[V9]
 refine S1 @q2 ?_
 refine CF (J0 (R9 @z0 @z8 @z8' @and_self @qe @hrow @r1 @gb @rowS ?_))
 refine K0 (full_at r.got gl M1) ?_
 refine CC (!(r.got.all fun b=>b)) (fun hq=>J0 (R0 ?_)) (fun hq=>J3 ?_)
 ·rw[if_pos (by simpa using hq)]at hZ
  refine T0 ?_
  subst hZ
  exact⟨_,tR _,rfl,h1,out _ mo1,hs1⟩
 rw[if_neg (by simpa using hq)]at hZ
 refine S0 ?_
 refine J0 (J1 ?_)
 simp only[zZ,reduceIte,yQ,yW,yX,yZ,yJ,yK,yV,zDk,Jc,Jb,Ja,J9,XQ,z0,z8,z8',and_self,qe,hrow,r1,gb,rowX,halX,Mem.get_push_new,agg8,put8]
 obtain⟨b7,hb7⟩:∃b,b=M1.size:=⟨_,rfl⟩
 obtain⟨M2,hM2⟩:∃M2,M2=(M1.push (.cells false s1 noExt.cells)).set M1.size (some (.cells false s1 r.x.cells)):=⟨_,rfl⟩
 rw[←hM2,←hb7]
 have g7:M2.get b7=some (.cells false s1 r.x.cells):=by rw[hM2,hb7];exact Mem.get_set_same (Mem.get_push_new _ _) _
 have mo2:More M1 M2:=⟨fun b x hb=>by
  have:=Mem.get_lt hb
  rw[hM2,Mem.get_set_ne (by omega),Mem.get_push_old this];exact hb,by rw[hM2,Mem.size_set,Mem.size_push];omega⟩
 have mo02:=mo1.trans mo2
 have h2:=h1.same mo2.get
 refine J0 (R2 @g7 @row8 ?_)
 refine⟨by kernel_rfl,_,blocks_spec P p q g d D M2 h2 r.x r.x.head.n.toNat (by omega) fb0 fb1,?_⟩
 rintro _ M3 ⟨V,rfl,hown,mo3⟩
 have mo03:=mo02.trans mo3
 have h3:=h2.same mo3.get
 have g73:=mo3.get _ _ g7
 have eb:(Xv d r.x).2=0:=by unfold Xv;rw[if_neg (by rw[hdd];simp)]
 rw[eb]
 have q3:((0:Int) !=0)=false:=rfl
 refine S0 ?_
 refine J0 (J0 (R1 @q3 ?_))
 refine CF (J3 ?_)
 obtain⟨L,hL⟩:∃L,L=(Xv d r.x).1:=⟨_,rfl⟩
 have hLl:L.length≤256:=by rw[hL];have:=blocksD_len d r.x;omega
 have hLs:∀b∈L,b.length≤1000000:=fun b hb=>by rw[hL]at hb;have:=blocksD_size d r.x b hb;omega
 rw[←hL]at hown hZ
 obtain⟨N,pe,pN⟩:=aroot_exact L (by omega) hLs M3 V hown.strs
 have mo4:More M3 (M3.app N):=⟨fun b x hb=>ZO M3 N b x hb,by rw[UU];omega⟩
 refine S0 ?_
 refine J0 (J0 (CW_drawG hmix 5 (by kernel_rfl) (by kernel_rfl) ?_))
 simp only[zZ,reduceIte,yQ,yW,yX,yZ,yJ,yK,yV,zDk,Jc,Jb,Ja,J9,XQ,XN,JM,Qc,QB,isVal,sGuardedV,JJ,Q1,yY,qh]
 refine⟨by kernel_rfl,_,N,pe,pN,?_⟩
 obtain⟨M4,hM4⟩:∃M4,M4=M3.app N:=⟨_,rfl⟩
 have mo04:More M M4:=by rw[hM4];exact mo03.trans mo4
 have h4:DepAt M4 P p q g d D:=by rw[hM4];exact h3.same mo4.get
 have g74:M4.get b7=some (.cells false s1 r.x.cells):=by rw[hM4];exact mo4.get _ _ g73
 have hs4:=mo04.size
 simp only[zZ,reduceIte,yQ,yW,yX,yZ,yJ,yK,yV,zDk,Jc,Jb,Ja,J9,XQ,XN,JM,Qc,QB,isVal,sGuardedV,JJ,Q1,yY,qh,g73,k5]
 rw[←hM4]
 refine CC (!beqB (str (rootV L)) r.x.head.root) (fun hq=>J0 (R0 ?_)) (fun hq=>J3 ?_)
 ·rw[if_pos (fun e=>by rw[e,beqB_dec]at hq;simp at hq)]at hZ
  refine T0 ?_
  subst hZ
  exact⟨_,tR _,rfl,h4,out _ mo04,hs4⟩
 rw[if_neg (fun hne=>by
  apply hne
  rw[beqB_dec]at hq
  simpa using hq)]at hZ
 obtain⟨s4,vo4,vk4,hrow4,ho4,hk4⟩:=h4.row
 have l44:vo4.length=4:=by rw[ho4.len,h4.ok.opn]
 have l84:vk4.length=8:=by rw[hk4.len,h4.ok.kept]
 have fr:=freeext_spec P 7 s4 8 _ M4 _ vk4 D.kept hrow4 (fun i v hv=>by
  have:=(List.getElem?_eq_some_iff.1 hv).1
  rw[depC_kept _ _ _ _ l44 l84 _ (by omega)];exact hv) hk4 (by rw[h4.ok.kept];decide)
 rw[h4.ok.kept]at fr
 refine S0 ?_
 refine J0 (R2 @hrow4 @sl_A8 ?_)
 refine K0 (fr) ?_
 cases hF:QZ D.kept 0 with
 |none=>
  rw[hF]at hZ
  have e1:freeI (none:Option Nat)= -1:=rfl
  have q4:decide ((-1:Int)<0)=true:=rfl
  rw[e1]
  refine J0 (J0 (R1 @q4 ?_))
  refine CT (J0 (R0 ?_))
  refine T0 ?_
  subst hZ
  exact⟨_,tR _,rfl,h4,out _ mo04,hs4⟩
 |some i=>
 rw[hF]at hZ
 simp only at hZ
 have hi8:i<8:=by have:=(free_in _ _ _ hF).2;rw[h4.ok.kept]at this;omega
 have e1:freeI (some i)=(i:Int):=rfl
 have q4:decide ((i:Int)<0)=false:=decide_eq_false (by omega)
 rw[e1]
 refine J0 (J0 (R1 @q4 ?_))
 refine CF (J3 ?_)
 have ks:=keep_spec P p q g d D M4 h4 i hi8 r.x hmx hfit
 obtain⟨K,hK⟩:∃K,K=Dep.keep d D i r.x:=⟨_,rfl⟩
 rw[←hK]at ks hZ
 have hKl:K.1.old.length=d.old.length:=by
  rw[hK,keep_rest]
  split
  ·exact QH _ _ _
  ·split
   ·exact(sync_len _).trans (QH _ _ _)
   ·exact(sync_len _).trans (QH _ _ _)
 refine S0 ?_
 refine J0 (J0 (R2 @g74 @row8 ?_))
 refine⟨by kernel_rfl,_,ks,?_⟩
 rintro _ M5 ⟨rfl,h5,o5,hs5⟩
 have o05:=(out _ mo04).trans o5
 refine S0 ?_
 refine J0 (R0 ?_)
 refine CC (K.2.2 !=0) (fun hq=>J0 (R0 ?_)) (fun hq=>J3 ?_)
 ·rw[if_pos (by simpa using hq)]at hZ
  refine T0 ?_
  subst hZ
  exact⟨_,tR _,rfl,h5,o05,by omega⟩
 rw[if_neg (by simpa using hq)]at hZ
 have hKo:K.2.1.opn=D.opn:=by
  rw[hK,keep_rest]
  split
  ·rfl
  ·split<;>rfl
 obtain⟨s5,vo5,vk5,hrow5,ho5r,hk5⟩:=h5.row
 have l45:vo5.length=4:=by rw[ho5r.len,h5.ok.opn]
 have l85:vk5.length=8:=by rw[hk5.len,h5.ok.kept]
 have ln:=VX p K.2.1 vo5 vk5 l45 l85
 have hput:Ji 1 M5 P (3+j) [.pointer none] (some (.cells false s5 (JQ p K.2.1 vo5 vk5)))=some (M5.set P (some (.cells false s5 ((JQ p K.2.1 vo5 vk5).set (3+j) (.pointer none))))):=by
  simp only[Ji]
  rw[if_pos ⟨rfl,by show 3+j+1≤(JQ p K.2.1 vo5 vk5).length;omega,rfl⟩]
  rfl
 have h6:=h5.turnO ho5r hk5 hrow5 j hj none (fun y hy=>by cases hy) (.pointer none) rfl
 rw[hKo]at h6
 obtain⟨M6,hM6⟩:∃M6,M6=M5.set P (some (.cells false s5 ((JQ p K.2.1 vo5 vk5).set (3+j) (.pointer none)))):=⟨_,rfl⟩
 have o06:Only [P,p,q,g] M M6:=by rw[hM6];exact o05.trans (Only.set (by simp) _)
 have hs6:M6.size=M5.size:=by rw[hM6,Mem.size_set]
 rw[←hM6]at h6 hput
 obtain⟨s6,vo6,vk6,hrow6,ho6r,hk6⟩:=h6.row
 have w1:IntKind.i64.wrap (1+(j:Int))=((1+j:Nat):Int):=by rw[Xl (by omega) (by omega)];omega
 obtain⟨U,hU⟩:∃U,U=K.1.write ((1+j:Nat):Int) []:=⟨_,rfl⟩
 have ws:=Z1 M6 p q g K.1 h6.dsk ((1+j:Nat):Int) [] (by simp)
 rw[←hU]at ws hZ
 have hul:U.1.old.length=K.1.old.length:=by rw[hU];exact QH _ _ _
 refine S0 ?_
 refine J0 (R7 @hrow5 @z0 @z8 @z8' @and_self @qe @hput ?_)
 refine J0 (R3 @hrow6 @c0 @w1 ?_)
 refine⟨by kernel_rfl,_,ws,?_⟩
 rintro _ M7 ⟨rfl,hd7,ho7,hs7⟩
 have ho7':Only [p,q,g] M6 M7:=ho7.mono (by simp)
 have h7:=h6.disk hd7 hul ho7'
 refine S0 ?_
 refine T0 ?_
 subst hZ
 exact⟨_,tR _,rfl,h7,o06.trans (tail3 ho7'),by omega⟩
end Go.Proofs.YteccmcpaheepcaaGreatDoor
namespace Go.Proofs.YteccmcpaheepcaaGreatDoor
open Go.RowKit Abs Stab
theorem Hdr_zero:Tryz.t33.zero=some (.agg noHead.cells.toArray):=by kernel_rfl
theorem Hdr_bytes:Tryz.t33.bytes≤1000:=by decide
theorem new_hdr1(x:Header):Jx qc 47 1 [(0,.agg x.cells.toArray)]=some (.cells false 7 x.cells):=by kernel_rfl
theorem hdapp{k:Nat}{M:Mem}{V:Value}{L:List Header}(h:Vj k M V L)(hk:k≤M.size)(hl:L.length≤1000000)(x:Header):
 ∃M' V',JN qc (M.push (.cells false 7 x.cells)) 47 47 V (.slice (some ⟨M.size,0,none⟩) 1 1)=some (V',M')∧QA V'=some (M.size+1)∧Vj k M' V' (L++[x])∧
  M'.size=M.size+2∧(∀b y,QA V≠some b→M.get b=some y→M'.get b=some y):=
 oapp Tryz.underlying47 inf_Hdr Hdr_zero sz_Hdr rfl Tryz.underlying47 (fun _=>rfl) Hdr_bytes h hk hl x 7
theorem keptcmp_ok:CmpOk 81:=by
 refine⟨by kernel_rfl,fun a b ha hb m=>?_⟩
 refine Abs.Spec.of_empty (by intro x hx;simp at hx;rcases hx with rfl|rfl<;>rfl) rfl ?_ m
 have w:IntKind.i64.wrap (a.id-b.id)=a.id-b.id:=Xl (by omega) (by omega)
 have b1:QS qc 33 (.agg a.cells.toArray)=some (.cells false (J6 qc 33) a.cells):=bx_Hdr _ rfl
 have b2:QS qc 33 (.agg b.cells.toArray)=some (.cells false (J6 qc 33) b.cells):=bx_Hdr _ rfl
 generalize J6 qc 33=s1 at b1 b2
 have c1:∀h:Header,cellIn 0 (some (.cells false s1 h.cells))=some (.int .i64 h.id):=fun h=>rfl
 have g1:(((⟨[]⟩:Mem).push (.cells false s1 a.cells)).push (.cells false s1 b.cells)).get (⟨[]⟩:Mem).size=some (.cells false s1 a.cells):=rfl
 have g2:(((⟨[]⟩:Mem).push (.cells false s1 a.cells)).push (.cells false s1 b.cells)).get ((⟨[]⟩:Mem).push (.cells false s1 a.cells)).size=some (.cells false s1 b.cells):=rfl
 refine WM Tryz.func81 Tryz.results81 Tryz.ntmps81 fun _=>?_
 refine J0 (R2 @b1 @b2 ?_)
 refine J0 (R4 @g1 @g2 @c1 @w ?_)
 refine T0 ?_
 first|exact⟨_,tR _,rfl⟩|exact⟨_,tR _⟩|exact⟨_,tR _,rfl,rfl⟩
theorem kept_spec(P p q g:Nat)(d:Dsk)(D:Dep)(M:Mem)(h:DepAt M P p q g d D):
 Abs.Spec qc 30 [.pointer (some ⟨P,0,none⟩)] M fun u M'=>Vj M.size M' u D.keptL∧More M M':=by
 refine WM Tryz.func30 Tryz.results30 Tryz.ntmps30 fun _=>?_
 obtain⟨s,vo,vk,hrow,ho,hk⟩:=h.row
 have l4:vo.length=4:=by rw[ho.len,h.ok.opn]
 have l8:vk.length=8:=by rw[hk.len,h.ok.kept]
 have rk:=row_kept s p D l4 l8
 have z9:∀i:Nat,i<100→IntKind.i64.wrap ((i:Int)+1)=((i+1:Nat):Int):=fun i hi=>by rw[Xl (by omega) (by omega)];omega
 refine J0 (R0 ?_)
 refine J0 (R0 ?_)
 refine QR (fun f M'=>∃V,f=[(3,V)]∧Vj M.size M' V ((D.kept.filterMap id).map Ext.head)∧(∀b x,b<M.size→M.get b=some x→M'.get b=some x)∧M.size≤M'.size) ?_ ?_
 ·refine J0 (R0 ?_)
  refine CT (J0 (R2 @hrow @rk ?_))
  refine J8 (Jt (fun j f M'=>∃(i:Nat)(V:Value),j=8-i∧f=[(3,V),(11,.agg vk.toArray),(12,.int .i64 (i:Nat))]∧i≤8∧
   Vj M.size M' V (((D.kept.take i).filterMap id).map Ext.head)∧(∀b x,b<M.size→M.get b=some x→M'.get b=some x)∧M.size≤M'.size) 8 ?_ ?_)
  ·refine JK [3,11,12] ?_
   exact⟨M,tR _,0,_,rfl,rfl,by omega,OwnL.nil _ _,fun _ _ _ h=>h,Nat.le_refl _⟩
  ·rintro j f M' ⟨i,V,rfl,rfl,hi,hown,hold,hsz⟩
   refine J0 (R0 ?_)
   refine J0 (CC (decide ((i:Int)<8)) (fun hq=>J3 ?_) (fun hq=>Jp ?_))
   ·have hi8:=of_decide_eq_true hq
    obtain⟨o,hoi⟩:∃o,D.kept[i]?=some o:=⟨_,qd (by rw[h.ok.kept];omega)⟩
    obtain⟨v,hv,hp⟩:=hk.at_ i o hoi
    have ix:=ix_A8 l8 hv
    have hst:=filtm_step hoi
    have w9:=z9 i (by omega)
    refine S0 ?_
    refine J0 (J8 (J0 (R1 @ix ?_)))
    refine J0 (J1 ?_)
    cases o with
    |none=>
     obtain rfl:v=.pointer none:=hp
     rw[Option.toList_none,List.append_nil]at hst
     refine S0 ?_
     refine CF (J3 ?_)
     refine S0 ?_
     refine R1 @w9 ?_
     refine JK [3,11,12] ?_
     exact⟨_,tR _,8-(i+1),⟨i+1,V,rfl,rfl,by omega,by rw[hst];exact hown,hold,hsz⟩,by omega⟩
    |some x=>
     obtain⟨b,s',hb,rfl,gb⟩:=hp
     rw[Option.toList_some]at hst
     have gb':=hold _ _ (Mem.get_lt gb) gb
     have rx:Jv 7 0 (some (.cells false s' x.cells))=some (.agg (x.head).cells.toArray):=rfl
     have nw:=new_hdr1 (x.head)
     obtain⟨M4,V4,ap4,hb4,hown4,hs4,hold4⟩:=hdapp hown hsz (by have:=filtm_len D.kept i;rw[h.ok.kept]at this;rw[qo];omega) (x.head)
     refine S0 ?_
     refine CT (R4 @gb' @rx @nw @ap4 ?_)
     refine R1 @w9 ?_
     refine JK [3,11,12] ?_
     have e4:((D.kept.take i).filterMap id).map Ext.head++[x.head]=((D.kept.take (i+1)).filterMap id).map Ext.head:=by rw[hst,List.map_append];rfl
     rw[e4]at hown4
     exact⟨_,tR _,8-(i+1),⟨i+1,V4,rfl,rfl,by omega,hown4,fun b y hb hy=>hold4 b y (fun e=>by have:=(hown.live e).1;omega) (hold b y hb hy),by omega⟩,by omega⟩
   ·have hi8:=of_decide_eq_false hq
    obtain rfl:i=8:=by omega
    rw[List.take_of_length_le (by rw[h.ok.kept];decide)]at hown
    refine JK [3] ?_
    exact⟨_,tR _,V,rfl,hown,hold,hsz⟩
 rintro _ M2 ⟨V2,rfl,hown2,hold2,hs2⟩
 have so:=sorth_own 81 keptcmp_ok M.size M2 V2 _ hown2 (by rw[qo];have:=qm id D.kept;rw[h.ok.kept]at this;omega) (fun x hx=>by
  obtain⟨y,hy,rfl⟩:=List.mem_map.1 hx
  obtain⟨o,ho1,ho2⟩:=List.mem_filterMap.1 hy
  cases ho2
  have:=(verify_ok (h.ok.fitK y ho1).1)
  have h1:=this.1
  have h2:=this.2.1
  exact⟨by omega,by omega⟩)
 unfold cmpH at so
 refine J0 (R0 ?_)
 refine⟨by kernel_rfl,_,so,?_⟩
 rintro _ M3 ⟨rfl,⟨R,hR,hown3⟩,hold3,hs3⟩
 rw[heads_eq hR]at hown3
 refine S0 ?_
 refine J0 (R0 ?_)
 refine T0 ?_
 exact⟨_,tR _,hown3,fun b x hb=>hold3 b x (fun e=>by have:=(hown2.live e).1;have:=Mem.get_lt hb;omega) (hold2 b x (Mem.get_lt hb) hb),by omega⟩
end Go.Proofs.YteccmcpaheepcaaGreatDoor
namespace Go.Proofs.YteccmcpaheepcaaGreatDoor
open Go.RowKit Abs
theorem hdrs_len{k:Nat}{M:Mem}{V:Value}{L:List Header}(h:Vj k M V L):∃a c,V=.slice a L.length c:=OwnL.len h
theorem awake25_spec(M:Mem):Abs.Spec qc 15 [] M fun u M'=>u=.bool true∧More M M':=by
 obtain⟨key,hkey⟩:∃k,k=Sha.headKey ([115]:List UInt8):=⟨_,rfl⟩
 have hkl:key.length≤1000000:=by rw[hkey,ZW];decide
 obtain⟨A,hA⟩:∃A,A=Vh [115] saltL 1 hello 1000:=⟨_,rfl⟩
 have hmade:Uo [115] [hello]=[A]:=by rw[hA];rfl
 have hok:ArcOk key A:=by
  have:=(made_ok (sec:=[115]) (T:=[hello]) (a:=A) (by rw[hmade];simp)).1
  rw[hkey];exact this
 have hbl:A.blocks.length=1:=by rw[hA,arcOf_len];rfl
 obtain⟨b0,hb0⟩:∃b,A.blocks[0]?=some b:=⟨_,qd (by omega)⟩
 have hb224:b0.length=224:=hok.size b0 (qf hb0)
 have hid:A.head.id=1:=by rw[hA];rfl
 obtain⟨d1,G,d2,d3,w1,w2,w3⟩:=wake_plain key A hok hbl b0 hb0
 rw[hid]at w2 w3
 have e1:(⟨#[115]⟩:ByteArray)=str [115]:=rfl
 have e5:(⟨#[104,101,108,108,111]⟩:ByteArray)=str hello:=rfl
 have q0:((0:Int) !=0)=false:=rfl
 have q1:((1:Int) !=1)=false:=rfl
 have q2:((0:Int)==0)=true:=rfl
 have q3:(((1:Nat):Int)==1)=true:=rfl
 have q4:(((0:Nat):Int) !=0)=false:=rfl
 refine WM Tryz.func15 Tryz.results15 Tryz.ntmps15 fun _=>?_
 refine J0 (R0 ?_)
 refine J0 (R0 ?_)
 refine⟨by kernel_rfl,_,new_spec M 20 (by decide) (by decide),?_⟩
 rintro _ M1 ⟨p,q,g,rfl,hd1,hp,hq,hg,ho1,hs1⟩
 have hdp:dp p=.pointer (some ⟨p,0,none⟩):=rfl
 have pl:p<M1.size:=by obtain⟨s,h⟩:=hd1.row;exact Q7 h
 have ql:q<M1.size:=Q7 hd1.kv
 have gl:g<M1.size:=Q7 hd1.old
 refine S0 ?_
 obtain⟨M2,hM2⟩:∃M2,M2=M1.push (.cells false 1 (encS hello)):=⟨_,rfl⟩
 have hs2:M2.size=M1.size+1:=by rw[hM2,Mem.size_push]
 have nw:=Vb hello
 have rd:StrsRd M2 (.slice (some ⟨M1.size,0,none⟩) 1 1) [hello]:=⟨_,_,rfl,Nat.le_refl _,(fun e=>by cases e),fun i x hx=>by
  obtain rfl:i=0:=by
   cases i with
   |zero=>rfl
   |succ i=>cases hx
  cases hx
  exact⟨M1.size,0,false,_,rfl,by rw[hM2,Mem.get_push_new],rfl⟩⟩
 refine J0 (R3 @e1 @e5 @nw ?_)
 rw[←hM2]
 refine⟨by kernel_rfl,_,made_spec [115] (by decide) [hello] (by decide) (by intro t ht;simp at ht;subst ht;decide) M2 _ rd,?_⟩
 rintro VL M3 ⟨LA,hLA,hown,mo3⟩
 rw[hmade]at hLA
 obtain⟨x,rfl,hx⟩:∃x,LA=[x]∧x.1=A:=by
  match LA,hLA with
  | [x],h=>exact⟨x,rfl,by simpa using h⟩
 obtain⟨xa,xv⟩:=x
 obtain rfl:xa=A:=hx
 have hd3:DskAt M3 p q g (Q6 20):=(hd1.same fun b x hb=>by rw[hM2,Mem.get_push_old (Mem.get_lt hb)];exact hb).same mo3.get
 have hs3:=mo3.size
 rcases hown.1 with⟨h0,_⟩|⟨_,gA,hgA,rfl,gA3⟩
 ·cases h0
 have hbs:=hown.2 _ (qp.2 rfl)
 simp only at hbs
 rcases hbs with⟨h0,_⟩|⟨_,gB,hgB,rfl,gB3⟩
 ·rw[h0]at hbl;cases hbl
 rw[hbl]
 have gA3':M3.get gA=some (.cells false 8 (Qg xa.head (.slice (some ⟨gB,0,none⟩) 1 1))):=by
  rw[gA3]
  simp only[List.flatMap_cons,List.flatMap_nil,List.append_nil]
  unfold arcV
  rw[hbl]
 have rowA:∀s,Jv 7 0 (some (.cells false s (Qg xa.head (.slice (some ⟨gB,0,none⟩) 1 1))))=some (.agg xa.head.cells.toArray):=fun _=>rfl
 have k7A:∀s,cellIn 7 (some (.cells false s (Qg xa.head (.slice (some ⟨gB,0,none⟩) 1 1))))=some (.slice (some ⟨gB,0,none⟩) 1 1):=fun _=>rfl
 have cB:cellIn 0 (some (.cells false 1 (xa.blocks.flatMap encS)))=some (.string (str b0)):=by
  show(xa.blocks.flatMap fun s=>[Value.string (str s)])[0]?=_
  rw[Xm,List.getElem?_map,hb0];rfl
 have lA:=Mem.get_lt gA3
 have lB:=Mem.get_lt gB3
 refine S1 @qk.{0} ?_
 refine J0 (J0 (R2 @q0 @hdp ?_))
 refine CF (J3 ?_)
 refine S0 ?_
 refine J0 (R2 @e1 @hdp ?_)
 have os:=open_spec M3 p q g (Q6 20) hd3 (str [115]) (by decide)
 rw[show(str [115]).data.toList=([115]:List UInt8)from rfl,←hkey,open_new 20 (by decide) (by decide) key,hdp]at os
 refine⟨by kernel_rfl,_,os,?_⟩
 rintro _ M4 ⟨v,rfl,hopen,ho4,hs4⟩
 obtain⟨P,rfl,hP,hat4⟩:=hopen
 have hat4:DepAt M4 P p q g (JV 20) (Dp0 key 1 0):=hat4
 have gA4:=ho4 gA _ (by simp;omega) gA3'
 have gB4:=ho4 gB _ (by simp;omega) gB3
 have eep:((some (Dp0 key 1 0):Option Dep).map Dep.epoch).getD 0=1:=rfl
 have sep:=depoch_spec P p q g (JV 20) (some (Dp0 key 1 0)) _ M4 ⟨rfl,hat4⟩
 rw[eep]at sep
 refine S0 ?_
 refine J0 (J0 (R1 @q0 ?_))
 refine K1 @q1 (sep) ?_
 refine⟨by kernel_rfl,_,kept_spec P p q g (JV 20) (Dp0 key 1 0) M4 hat4,?_⟩
 rintro K M5 ⟨hK,mo5⟩
 rw[kept_d0]at hK
 obtain⟨aK,cK,rfl⟩:=hdrs_len hK
 refine S2 @List.length_nil.{0} @q4 ?_
 refine CF (J3 ?_)
 have hat5:=hat4.same mo5.get
 have gA5:=mo5.get _ _ gA4
 have gB5:=mo5.get _ _ gB4
 have z0:(0:Int)≤0:=by omega
 have z1:(0:Int)<((1:Nat):Int):=by omega
 have z1':(0:Int)<1:=by omega
 have z2:(0:Int).toNat=0:=rfl
 have bs:=begin_spec P p q g (JV 20) (Dp0 key 1 0) xa.head M5 hat5 hkl (by simp[JV])
 rw[w1]at bs
 refine S0 ?_
 refine J0 (R8 @z0 @z1 @z1' @z2 @and_self @Nat.zero_mul @gA5 @rowA ?_)
 refine⟨by kernel_rfl,_,bs,?_⟩
 rintro _ M6 ⟨rfl,hat6,ho6,hs6⟩
 have gA6:=ho6 gA _ (by simp;have:=mo5.size;omega) gA5
 have gB6:=ho6 gB _ (by simp;have:=mo5.size;omega) gB5
 have ss:=stage_spec P p q g d1 (Ze key xa 1 0 G) 1 0 b0 (by omega) ⟨by show(-1000000:Int)≤0;decide,by show(0:Int)≤1000000000;decide⟩ M6 hat6
 rw[w2]at ss
 refine S0 ?_
 refine J0 (J1 ?_)
 simp only[zZ,reduceIte,yQ,yW,yX,yZ,yJ,yK,yV,zDk,Jc,Jb,Ja,J9,XQ,z0,z1,z1',z2,and_self,Nat.zero_mul,gA6,k7A,gB6,cB]
 refine⟨by kernel_rfl,_,ss,?_⟩
 rintro _ M7 ⟨rfl,hat7,ho7,hs7⟩
 have cs:=commit_spec P p q g d2 (Ze key xa 1 1 [true]) 1 M7 hat7
 rw[w3]at cs
 refine S0 ?_
 refine J0 (R0 ?_)
 refine⟨by kernel_rfl,_,cs,?_⟩
 rintro _ M8 ⟨rfl,hat8,ho8,hs8⟩
 refine S0 ?_
 refine J0 (R1 @q2 ?_)
 refine⟨by kernel_rfl,_,kept_spec P p q g d3 (Dp2 key xa 1 1) M8 hat8,?_⟩
 rintro K M9 ⟨hK,mo9⟩
 rw[kept_d2]at hK
 obtain⟨aK,cK,rfl⟩:=hdrs_len hK
 refine S2 @qk.{0} @q3 ?_
 refine T0 ?_
 have old:∀b x,M.get b=some x→M9.get b=some x:=fun b x hb=>by
  have l:=Mem.get_lt hb
  have a1:=ho1 b x (by simp) hb
  have a2:M2.get b=some x:=by rw[hM2,Mem.get_push_old (by omega)];exact a1
  have a3:=mo3.get b x a2
  have a4:=ho4 b x (by simp;omega) a3
  have a5:=mo5.get b x a4
  have a6:=ho6 b x (by simp;omega) a5
  have a7:=ho7 b x (by simp;omega) a6
  exact mo9.get b x (ho8 b x (by simp;omega) a7)
 first|exact⟨_,tR _,rfl,old,by have:=mo5.size;have:=mo9.size;omega⟩|exact⟨_,tR _,old,by have:=mo5.size;have:=mo9.size;omega⟩
def Vn(x:Int):List Value:=[.int .i64 x]
abbrev NumsOwn(k:Nat)(M:Mem)(V:Value)(L:List Int):Prop:=OwnL Vn 1 k M V L
theorem new_num1(x:Int):Jx qc 71 1 [(0,.int .i64 x)]=some (.cells false 1 (Vn x)):=by kernel_rfl
theorem napp{k:Nat}{M:Mem}{V:Value}{L:List Int}(h:NumsOwn k M V L)(hk:k≤M.size)(hl:L.length≤1000000)(x:Int):
 ∃M' V',JN qc (M.push (.cells false 1 (Vn x))) 71 71 V (.slice (some ⟨M.size,0,none⟩) 1 1)=some (V',M')∧QA V'=some (M.size+1)∧NumsOwn k M' V' (L++[x])∧
  M'.size=M.size+2∧(∀b y,QA V≠some b→M.get b=some y→M'.get b=some y):=
 oapp Tryz.underlying71 inf_Int (show Tryz.t3.zero=some (.int .i64 0)from rfl) sz_Int rfl Tryz.underlying71 (fun _=>rfl) (show Tryz.t3.bytes≤1000 by decide) h hk hl x 1
abbrev NumsRd(M:Mem)(v:Value)(X:List Int):Prop:=Rd M 1 v X.length (X.flatMap Vn)
theorem pick_mod(x:Int)(n:Nat)(h1:1≤n)(h2:n≤1000)(hx: -9223372036854775808≤x∧x≤9223372036854775807):∃k:Nat,k<n∧IntKind.i64.wrap (x.tmod (n:Int))=x.tmod (n:Int)∧IntKind.i64.wrap (x.tmod (n:Int)+(n:Int))=x.tmod (n:Int)+(n:Int)∧
 (x.tmod (n:Int)+(n:Int)).tmod (n:Int)=((k:Nat):Int)∧IntKind.i64.wrap ((k:Nat):Int)=((k:Nat):Int):=by
 have hn:(0:Int)<(n:Int):=by omega
 have a1:=Int.tmod_lt_of_pos x hn
 have a2:=Int.lt_tmod_of_pos x hn
 have hnn:0≤x.tmod (n:Int)+(n:Int):=by omega
 have e:(x.tmod (n:Int)+(n:Int)).tmod (n:Int)=(x.tmod (n:Int)+(n:Int))%(n:Int):=Int.tmod_eq_emod_of_nonneg hnn
 have b1:=Int.emod_nonneg (x.tmod (n:Int)+(n:Int)) (show(n:Int)≠0 by omega)
 have b2:=Int.emod_lt_of_pos (x.tmod (n:Int)+(n:Int)) hn
 refine⟨((x.tmod (n:Int)+(n:Int))%(n:Int)).toNat,by omega,Xl (by omega) (by omega),Xl (by omega) (by omega),by rw[e];omega,Xl (by omega) (by omega)⟩
theorem Opn.key{key:List UInt8}{a:Arc}{e:Nat}{d:Dsk}{D:Dep}(h:Opn key a e d D):D.key=key:=by
 rcases h.2.2.2 with⟨_,_,_,rfl⟩|⟨_,_,rfl,_⟩|⟨_,rfl⟩<;>rfl
theorem put_num(M:Mem)(g:Nat)(W:List Int){k:Nat}(hk:k<W.length)(x:Int):Ji 1 M g k [.int .i64 x] (some (.cells false 1 (W.flatMap Vn)))=some (M.set g (some (.cells false 1 ((W.set k x).flatMap Vn)))):=by
 have e1:∀L:List Int,L.flatMap Vn=L.map (Value.int .i64):=fun L=>Xm (Value.int .i64) L
 rw[e1,e1]
 simp only[Ji]
 rw[if_pos ⟨rfl,by simp only[List.length_cons,List.length_nil,qo];omega,rfl⟩]
 simp only[setL,List.map_set]
theorem fuse31_le(x:Int):bits .and .i64 x 31≤9223372036854775807:=by
 have h127:(BitVec.ofInt 64 31).toNat=2^5-1:=by decide
 have key:(BitVec.ofInt 64 x&&&BitVec.ofInt 64 31).toNat=(x%((2^64:Nat):Int)).toNat%2^5:=by
  rw[BitVec.toNat_and,BitVec.toNat_ofInt,h127,Nat.and_two_pow_sub_one_eq_mod]
 show IntKind.i64.wrap ((BitVec.ofInt 64 x&&&BitVec.ofInt 64 31).toNat:Nat)≤_
 rw[key,IntKind.wrap_i64]
 omega
theorem flat_num(L:List Int):L.flatMap Vn=L.map (Value.int .i64):=Xm (Value.int .i64) L
theorem PtrsAt.nums{α:Type}{enc:α→List Value}{K:List Nat}{M M':Mem}{l:List (Option α)}{vs:List Value}(henc:∀a,∃t,(enc a)[1]?=some (.string t))(h:PtrsAt enc K M l vs){g:Nat}{W:List Int}
 (hw:M.get g=some (.cells false 1 (W.flatMap Vn))) (ho:Only [g] M M'):PtrsAt enc K M' l vs:=
 ⟨h.len,fun i o hi=>by
  obtain⟨v,h1,h2⟩:=h.at_ i o hi
  refine⟨v,h1,?_⟩
  cases o with
  |none=>exact h2
  |some a=>
   obtain⟨b,s,k1,k2,k3⟩:=h2
   refine⟨b,s,k1,k2,ho b _ ?_ k3⟩
   simp only[qp]
   rintro rfl
   rw[hw]at k3
   have k4:=Option.some.inj k3
   injection k4 with _ _ e
   obtain⟨t,ht⟩:=henc a
   rw[←e,flat_num,List.getElem?_map]at ht
   cases hx:W[1]?<;>rw[hx]at ht<;>cases ht⟩
theorem DepAt.nums{M M':Mem}{P p q g:Nat}{d:Dsk}{D:Dep}(h:DepAt M P p q g d D){gW:Nat}{W:List Int}(hw:M.get gW=some (.cells false 1 (W.flatMap Vn)))(ho:Only [gW] M M')(hn:gW∉ [P,p,q,g]):DepAt M' P p q g d D:=by
 obtain⟨hd,hok,⟨s,vo,vk,h1,h2,h3⟩,hne⟩:=h
 simp at hn
 exact⟨hd.only ho (by simp;omega) (by simp;omega) (by simp;omega),hok,⟨s,vo,vk,ho P _ (by simp;omega) h1,h2.nums (fun _=>⟨_,rfl⟩) hw ho,h3.nums (fun _=>⟨_,rfl⟩) hw ho⟩,hne⟩
theorem depot_once(sec text:List UInt8)(hsec:sec.length≤4000000000000000000)(htext:text.length≤4000000000000000000)(O F B:List Int)(hOw:∀x∈O, -9223372036854775808≤x∧x≤9223372036854775807)(hl:O.length≤4000000000000000000∧F.length≤4000000000000000000∧B.length≤4000000000000000000)(M:Mem)(vO vF vB:Value)(rO:NumsRd M vO O)(rF:NumsRd M vF F)(rB:NumsRd M vB B):
 Abs.Spec qc 6 [.string (str sec),.string (str text),vO,vF,vB] M fun u _=>u=.bool true:=by
 obtain⟨S,hS⟩:∃S,S=sec.take 100:=⟨_,rfl⟩
 have dn:S.length≤100:=by rw[hS,List.length_take];omega
 obtain⟨key,aq⟩:∃key,key=Sha.headKey S:=⟨_,rfl⟩
 have cV:key.length≤1000000:=by rw[aq,ZW];decide
 obtain⟨A,hA⟩:∃A,A=Vh S saltL ((1+0:Nat):Int) (Zv text) 1000:=⟨_,rfl⟩
 have bQ:S.take 100=S:=by rw[hS,List.take_take];simp
 have b8:Uo S [text]=[A]:=by unfold Uo;rw[bQ,hA];rfl
 have bN:=made_ok (sec:=S) (T:=[text]) (a:=A) (by rw[b8];simp)
 rw[bQ,←aq]at bN
 obtain⟨aA,_,_,cc⟩:=bN
 have cv:A.head.id=1:=by rw[hA,arcOf_id];rfl
 have aW:1≤A.blocks.length:=by
  have h1:=VQ aA.may
  have h2:=aA.len
  omega
 obtain⟨n,hn⟩:∃n,n=A.blocks.length:=⟨_,rfl⟩
 have aQ:∀b,ptr b=.pointer (some ⟨b,0,none⟩):=fun _=>rfl
 have q0:((0:Int) !=0)=false:=rfl
 have j0:∀s d p e q L,cellIn 0 (some (.cells false s (Qr d p e q S L)))=some d:=fun _ _ _ _ _ _=>rfl
 have j1:∀s d p e q L,cellIn 1 (some (.cells false s (Qr d p e q S L)))=some p:=fun _ _ _ _ _ _=>rfl
 have j4:∀s d p e q L,cellIn 4 (some (.cells false s (Qr d p e q S L)))=some (.string (str S)):=fun _ _ _ _ _ _=>rfl
 have j5:∀s d p e q L,cellIn 5 (some (.cells false s (Qr d p e q S L)))=some L:=fun _ _ _ _ _ _=>rfl
 have aN:Qd qc 61=some (.cells false (J6 qc 61) (Qg noHead (.slice none 0 0))):=al_Arc
 generalize J6 qc 61=s3 at aN
 have bj:∀(s:Nat)(h:Header) a n c,Jv 8 0 (some (.cells false s (Qg h (.slice a n c))))=some (.agg (Qg h (.slice a n c)).toArray):=fun _ _ _ _ _=>rfl
 have bo:∀(s:Nat)(h:Header) V,Jv 7 0 (some (.cells false s (Qg h V)))=some (.agg h.cells.toArray):=fun _ _ _=>rfl
 have k7:∀(s:Nat)(h:Header) V,cellIn 7 (some (.cells false s (Qg h V)))=some V:=fun _ _ _=>rfl
 have bk:∀(h:Header) V,(Value.agg (Qg h V).toArray).cells.toList=Qg h V:=fun _ _=>rfl
 have bf:∀(M0:Mem)(b:Nat)(x y:Header) V a n c,Ji 8 M0 b 0 (Qg y (.slice a n c)) (some (.cells false s3 (Qg x V)))=some (M0.set b (some (.cells false s3 (Qg y (.slice a n c))))):=fun _ _ _ _ _ _ _ _=>rfl
 have nw:=Vb text
 obtain⟨M1,bu⟩:∃M1,M1=M.push (.cells false 1 (encS text)):=⟨_,rfl⟩
 have bR:More M M1:=by rw[bu];exact More.push _ _
 have rd:StrsRd M1 (.slice (some ⟨M.size,0,none⟩) 1 1) [text]:=⟨_,_,rfl,Nat.le_refl _,(fun e=>by cases e),fun i x hx=>by
  obtain rfl:i=0:=by
   cases i with
   |zero=>rfl
   |succ i=>cases hx
  cases hx
  exact⟨M.size,0,false,_,rfl,by rw[bu,Mem.get_push_new],rfl⟩⟩
 refine WM Tryz.func6 Tryz.results6 Tryz.ntmps6 fun _=>?_
 refine J0 (R0 ?_)
 refine J0 (R1 @nw ?_)
 rw[←bu]
 refine⟨by kernel_rfl,_,built_spec 40 (by decide) (by decide) sec hsec [text] (by simp) (by intro t ht;simp at ht;subst ht;exact htext) M1 _ rd,?_⟩
 rintro _ M2 ⟨H,p,q,g,P0,VL,LA,Mk,rfl,ay,bz,af,o1,o2,dk,zH,zp,zq,zg,zP,z2⟩
 rw[←hS]at ay bz
 rw[b8]at bz
 obtain⟨x,rfl,hx⟩:∃x,LA=[x]∧x.1=A:=by
  match LA,bz with
  | [x],h=>exact⟨x,rfl,by simpa using h⟩
 obtain⟨xa,xv⟩:=x
 obtain rfl:xa=A:=hx
 rcases af.1 with⟨h0,_⟩|⟨_,gA,hgA,rfl,gAk⟩
 ·cases h0
 have bH:=af.2 _ (qp.2 rfl)
 simp only at bH
 rcases bH with⟨h0,_⟩|⟨_,gB,hgB,rfl,gBk⟩
 ·rw[h0]at aW;simp at aW
 rw[←hn]at gAk
 have lA:=Mem.get_lt gAk
 have lB:=Mem.get_lt gBk
 have cg:M2.get gA=some (.cells false 8 (Qg xa.head (.slice (some ⟨gB,0,none⟩) n n))):=by
  rw[o2 _ _ gAk]
  simp only[List.flatMap_cons,List.flatMap_nil,List.append_nil]
  rfl
 have bI:=o2 _ _ gBk
 obtain⟨sH,e0,Q0,hH,_⟩:=ay.row
 have ac:=ay.dep
 rw[←aq]at ac
 have bp:=ay.ne
 obtain⟨_,_,_,gP,_⟩:=ac.row
 obtain⟨_,gp⟩:=ac.dsk.row
 have lP:=Mem.get_lt gP
 have lp:=Mem.get_lt gp
 have lq:=Mem.get_lt ac.dsk.kv
 have lg:=Mem.get_lt ac.dsk.old
 have dy:=bR.size
 have qn:(((1:Nat):Int) !=1)=false:=rfl
 have z0:(0:Int)≤0:=by omega
 have z1:(0:Int)<((1:Nat):Int):=by omega
 have cT:(0:Int)<1:=by omega
 have cD:(0:Int).toNat=0:=rfl
 refine S1 @aQ ?_
 refine J0 (J0 (R5 @hp_eql @hH @j5 @qk.{0} @qn ?_))
 refine CF (J3 ?_)
 refine S0 ?_
 obtain⟨an,aR⟩:∃b,b=M2.size:=⟨_,rfl⟩
 obtain⟨M3,ba⟩:∃M3,M3=(M2.push (.cells false s3 (Qg noHead (.slice none 0 0)))).set M2.size (some (.cells false s3 (Qg xa.head (.slice (some ⟨gB,0,none⟩) n n)))):=⟨_,rfl⟩
 refine J0 (J1 ?_)
 simp only[zZ,reduceIte,yQ,yW,yX,yZ,yJ,yK,yV,zDk,Jc,Jb,Ja,J9,XQ,hH,j5,qk,z0,z1,cT,cD,and_self,Nat.zero_mul,cg,bj,aN,Mem.get_push_new,bk,bf]
 rw[←ba,←aR]
 refine J0 (R0 ?_)
 have z3:M3.size=M2.size+1:=by rw[ba,Mem.size_set,Mem.size_push]
 have bi:M3.get an=some (.cells false s3 (Qg xa.head (.slice (some ⟨gB,0,none⟩) n n))):=by rw[ba,aR];exact Mem.get_set_same (Mem.get_push_new _ _) _
 have aS:∀b x,M2.get b=some x→M3.get b=some x:=fun b x hx=>by
  have:=Mem.get_lt hx
  rw[ba,Mem.get_set_ne (by omega),Mem.get_push_old this];exact hx
 refine QR (fun f M'=>∃gW,f=[(2,vO),(3,vF),(4,vB),(11,.pointer (some ⟨H,0,none⟩)),(12,.pointer (some ⟨an,0,none⟩)),(13,.slice (some ⟨gW,0,none⟩) n n)]∧M3.size≤gW∧M'.get gW=some (.cells false 1 ((qi n (0:Int)).flatMap Vn))∧
  (∀b x,M3.get b=some x→M'.get b=some x)) ?_ ?_
 ·refine J0 (R0 ?_)
  refine J8 (Jt (fun j f M'=>∃(t:Nat)(V:Value),j=n-t∧f=[(2,vO),(3,vF),(4,vB),(11,.pointer (some ⟨H,0,none⟩)),(12,.pointer (some ⟨an,0,none⟩)),(13,V),(14,.int .i64 (t:Nat))]∧t≤n∧NumsOwn M3.size M' V (qi t (0:Int))∧
   (∀b x,M3.get b=some x→M'.get b=some x)∧M3.size≤M'.size) n ?_ ?_)
  ·refine JK [2,3,4,11,12,13,14] ?_
   exact⟨M3,tR _,0,_,rfl,rfl,by omega,OwnL.nil _ _,fun _ _ h=>h,by omega⟩
  ·rintro j f M' ⟨t,V,rfl,rfl,ht,af,oM,cy⟩
   have hb:=oM _ _ bi
   refine J0 (J0 (R2 @hb @k7 ?_))
   refine(CC (decide ((t:Int)<(n:Int))) (fun hq=>J3 ?_) (fun hq=>Jp ?_))
   ·have hq:=of_decide_eq_true hq
    have w1:IntKind.i64.wrap ((t:Int)+1)=((t+1:Nat):Int):=by rw[Xl (by omega) (by omega)];omega
    obtain⟨M5,V5,ha,du,aL,cG,cX⟩:=napp af cy (by simp;omega) 0
    refine J0 ?_
    refine J8 (R2 @new_num1 @ha ?_)
    refine R1 @w1 ?_
    refine JK [2,3,4,11,12,13,14] ?_
    exact⟨M5,tR _,n-(t+1),⟨t+1,V5,rfl,rfl,by omega,by rw[List.replicate_succ'];exact aL,fun b x hx=>cX b x (fun e=>by
     have h1:=af.live e
     have h2:=Mem.get_lt hx
     omega) (oM b x hx),by omega⟩,by omega⟩
   ·have hq:=of_decide_eq_false hq
    have da:t=n:=by omega
    subst da
    rcases af with⟨h0,_⟩|⟨_,gW,bM,rfl,gWk⟩
    ·rw[List.replicate_eq_nil_iff]at h0;omega
    refine S0 ?_
    refine JK [2,3,4,11,12,13] ?_
    exact⟨M',tR _,gW,by rw[qj],bM,gWk,oM⟩
 ·rintro f M4 ⟨gW,rfl,bM,bJ,au⟩
  have lW:=Mem.get_lt bJ
  have bc:=au _ _ (aS _ _ hH)
  have lH:=Mem.get_lt hH
  have aU:=ac.same fun b x hx=>au b x (aS b x hx)
  obtain⟨aO,cO,rfl⟩:=rO.len
  obtain⟨aF,cF,rfl⟩:=rF.len
  obtain⟨aB,cB,rfl⟩:=rB.len
  have bh:∀b x,M.get b=some x→M4.get b=some x:=fun b x hx=>au b x (aS b x (o2 b x (o1 b x (bR.get b x hx))))
  refine J0 (R3 @aQ @bc @j1 ?_)
  refine QR (fun f M'=>f=[]) ?_ ?_
  ·refine J0 (R0 ?_)
   refine J8 (Jt (fun j f M'=>∃(c P:Nat)(d:Dsk)(D:Dep)(W:List Int),j=8-c∧f=[(2,.slice aO O.length cO),(3,.slice aF F.length cF),(4,.slice aB B.length cB),(11,.pointer (some ⟨H,0,none⟩)),(12,.pointer (some ⟨an,0,none⟩)),(13,.slice (some ⟨gW,0,none⟩) n n),(15,.pointer (some ⟨P,0,none⟩)),(16,.int .i64 (c:Nat))]∧c≤8∧
    W.length=n∧(∀w∈W,0≤w∧w≤(c:Int))∧DepAt M' P p q g d D∧Opn key xa (c+1) d D∧M'.get gW=some (.cells false 1 (W.flatMap Vn))∧(P=P0∨M4.size≤P)∧M4.size≤M'.size∧
    (∀b x,b∉ [gW,P0,p,q,g]→M4.get b=some x→M'.get b=some x)) 8 ?_ ?_)
   ·refine JK [2,3,4,11,12,13,15,16] ?_
    exact⟨M4,tR _,0,P0,_,_,qi n 0,rfl,rfl,by omega,qj,fun w hw=>by rw[(List.mem_replicate.1 hw).2];decide,aU,opn_new key xa 40 (by decide) (by decide),bJ,.inl rfl,by omega,fun _ _ _ h=>h⟩
   ·rintro j f M5 ⟨c,P,d,D,W,rfl,rfl,hc,cR,hW,ay,aP,bU,hP,cG,oM⟩
    have cW:=oM H _ (by simp at bp ⊢;omega) bc
    have cQ:=oM an _ (by simp;omega) (au _ _ bi)
    have dj:=oM gB _ (by simp;omega) (au _ _ (aS _ _ bI))
    have bW:=aP.key
    have aj:gW∉ [P,p,q,g]:=by simp;omega
    have bm:∀(a:Option Addr)(cp:Nat)(X:List Int),NumsRd M (.slice a X.length cp) X→0<X.length→∃b ro,a=some ⟨b,0,none⟩∧M.get b=some (.cells ro 1 (X.flatMap Vn))∧b<M.size:=fun a cp X hX h0=>by
     obtain⟨b,ro,h1,h2⟩:=hX.at h0
     exact⟨b,ro,h1,h2,Mem.get_lt h2⟩
    cases a1:decide ((c:Int)<(F.length:Int))
    case false=>
     refine J0 (J0 (R1 @a1 ?_))
     refine CF (Jp ?_)
     refine S0 ?_
     refine JK [] ?_
     exact⟨M5,tR _⟩
    cases a2:decide ((c:Int)<(B.length:Int))
    case false=>
     refine J0 (J0 (R2 @a1 @a2 ?_))
     refine CF (Jp ?_)
     refine S0 ?_
     refine JK [] ?_
     exact⟨M5,tR _⟩
    cases a3:decide ((c:Int)<8)
    case false=>
     refine J0 (J0 (R3 @a1 @a2 @a3 ?_))
     refine CF (Jp ?_)
     refine S0 ?_
     refine JK [] ?_
     exact⟨M5,tR _⟩
    refine J0 (J0 (R3 @a1 @a2 @a3 ?_))
    refine CT (J3 ?_)
    have q1:=of_decide_eq_true a1
    have q2:=of_decide_eq_true a2
    have q3:=of_decide_eq_true a3
    obtain⟨bF,df,rfl,gF,lF⟩:=bm _ _ _ rF (by omega)
    obtain⟨bB,dh,rfl,cn,dg⟩:=bm _ _ _ rB (by omega)
    obtain⟨fu,cw⟩:∃x,F[c]?=some x:=⟨_,qd (by omega)⟩
    obtain⟨bt,bT⟩:∃x,B[c]?=some x:=⟨_,qd (by omega)⟩
    have bX:(F.flatMap Vn)[c]?=some (.int .i64 fu):=VY (f:=Value.int .i64) cw false 1
    have cY:(B.flatMap Vn)[c]?=some (.int .i64 bt):=VY (f:=Value.int .i64) bT false 1
    have c0:(0:Int)≤(c:Int):=by omega
    have cq:=oM bF _ (by simp;omega) (bh _ _ gF)
    have w1:IntKind.i64.wrap ((c:Int)+1)=((c+1:Nat):Int):=by rw[Xl (by omega) (by omega)];omega
    refine QR (fun f M'=>∃(P:Nat)(d:Dsk)(D:Dep)(W:List Int),f=[(2,.slice aO O.length cO),(3,.slice (some ⟨bF,0,none⟩) F.length cF),(4,.slice (some ⟨bB,0,none⟩) B.length cB),(11,.pointer (some ⟨H,0,none⟩)),(12,.pointer (some ⟨an,0,none⟩)),(13,.slice (some ⟨gW,0,none⟩) n n),(15,.pointer (some ⟨P,0,none⟩)),(16,.int .i64 (c:Nat))]∧
     W.length=n∧(∀w∈W,0≤w∧w≤((c+1:Nat):Int))∧DepAt M' P p q g d D∧Opn key xa (c+1+1) d D∧M'.get gW=some (.cells false 1 (W.flatMap Vn))∧(P=P0∨M4.size≤P)∧M4.size≤M'.size∧
     (∀b x,b∉ [gW,P0,p,q,g]→M4.get b=some x→M'.get b=some x)) ?_ ?_
    ·refine J8 ?_
     refine J0 (D9 9 @cW @j0 @aQ @c0 @q1 @and_self @cq @qe @bX ?_)
     refine⟨by kernel_rfl,_,fuse_spec M5 p q g d ay.dsk _ (fuse31_le fu),?_⟩
     rintro _ M6 ⟨rfl,ai,aY,dx⟩
     obtain⟨d6,br⟩:∃x,x=d.setFuse (bits .and .i64 fu 31):=⟨_,rfl⟩
     have ai:DskAt M6 p q g d6:=by rw[br];exact ai
     have ar:Opn key xa (c+1) d6 D:=by rw[br];exact aP.fused (fuse31_le fu)
     have ai:DepAt M6 P p q g d6 D:=ay.disk ai (by rw[br,fuse_old]) (fun b x hb hx=>aY b x (by simp at hb ⊢;exact hb.1) hx)
     have db:=aY an _ (by simp;omega) cQ
     have bV:13≤d6.old.length:=by have:=ar.2.2.1.n;omega
     refine S0 ?_
     refine J0 (R2 @db @bo ?_)
     refine⟨by kernel_rfl,_,begin_spec P p q g d6 D xa.head M6 ai (by rw[bW];exact cV) bV,?_⟩
     rintro _ M7 ⟨rfl,ax,bE,dw⟩
     have az:=inn_begin aA (by omega) ar (c:=c) (W:=W) (fun w hw=>(hW w hw).1) (fun w hw=>(hW w hw).2)
     generalize Dep.begin d6 D xa.head=X7 at ax az
     obtain⟨d7,D7,e7⟩:=X7
     simp only at ax az
     refine S0 ?_
     have cL:M7.get gW=some (.cells false 1 (W.flatMap Vn)):=bE gW _ (by simp at aj ⊢;omega) (aY gW _ (by simp;omega) bU)
     have o7:∀b x,b∉ [gW,P0,p,q,g]→M4.get b=some x→M7.get b=some x:=fun b x hb hx=>by
      have lb:=Mem.get_lt hx
      exact bE b x (by simp at hb ⊢;omega) (aY b x (by simp at hb ⊢;omega) (oM b x hb hx))
     refine QR (fun f M'=>∃(d:Dsk)(D:Dep)(W:List Int),f=[(2,.slice aO O.length cO),(3,.slice (some ⟨bF,0,none⟩) F.length cF),(4,.slice (some ⟨bB,0,none⟩) B.length cB),(11,.pointer (some ⟨H,0,none⟩)),(12,.pointer (some ⟨an,0,none⟩)),(13,.slice (some ⟨gW,0,none⟩) n n),(15,.pointer (some ⟨P,0,none⟩)),(16,.int .i64 (c:Nat))]∧
      W.length=n∧(∀w∈W,0≤w∧w≤((c+1:Nat):Int))∧DepAt M' P p q g d D∧Hist xa d (c+1) (fun _=>True)∧M'.get gW=some (.cells false 1 (W.flatMap Vn))∧M4.size≤M'.size∧
      (∀b x,b∉ [gW,P0,p,q,g]→M4.get b=some x→M'.get b=some x)) ?_ ?_
     ·refine J0 (R0 ?_)
      refine J8 (Jt (fun j f M'=>∃(i:Nat)(d:Dsk)(D:Dep)(W:List Int),j=20-i∧f=[(2,.slice aO O.length cO),(3,.slice (some ⟨bF,0,none⟩) F.length cF),(4,.slice (some ⟨bB,0,none⟩) B.length cB),(11,.pointer (some ⟨H,0,none⟩)),(12,.pointer (some ⟨an,0,none⟩)),(13,.slice (some ⟨gW,0,none⟩) n n),(15,.pointer (some ⟨P,0,none⟩)),(16,.int .i64 (c:Nat)),(17,.int .i64 (i:Nat))]∧i≤20∧
       W.length=n∧DepAt M' P p q g d D∧Inn key xa (c+1) c (i:Nat) d D W∧M'.get gW=some (.cells false 1 (W.flatMap Vn))∧M4.size≤M'.size∧
       (∀b x,b∉ [gW,P0,p,q,g]→M4.get b=some x→M'.get b=some x)) 20 ?_ ?_)
      ·refine JK [2,3,4,11,12,13,15,16,17] ?_
       exact⟨M7,tR _,0,d7,D7,W,rfl,rfl,by omega,cR,ax,az,cL,by omega,o7⟩
      ·rintro j f M8 ⟨i,d8,D8,W8,rfl,rfl,cJ,ak,ah,aa,aV,bw,o8⟩
       cases b1:decide ((i:Int)<(O.length:Int))
       case false=>
        refine J0 (J0 (R1 @b1 ?_))
        refine CF (Jp ?_)
        refine S0 ?_
        refine JK [2,3,4,11,12,13,15,16] ?_
        exact⟨M8,tR _,d8,D8,W8,ak,fun w hw=>⟨aa.2.1 w hw,by have:=aa.le w hw;omega⟩,ah,aa.hist,aV,bw,o8⟩
       cases b2:decide ((i:Int)<20)
       case false=>
        refine J0 (J0 (R2 @b1 @b2 ?_))
        refine CF (Jp ?_)
        refine S0 ?_
        refine JK [2,3,4,11,12,13,15,16] ?_
        exact⟨M8,tR _,d8,D8,W8,ak,fun w hw=>⟨aa.2.1 w hw,by have:=aa.le w hw;omega⟩,ah,aa.hist,aV,bw,o8⟩
       refine J0 (J0 (R2 @b1 @b2 ?_))
       refine CT (J3 ?_)
       have p1:=of_decide_eq_true b1
       have p2:=of_decide_eq_true b2
       obtain⟨bO,dq,rfl,cj,dr⟩:=bm _ _ _ rO (by omega)
       obtain⟨od,bK⟩:∃x,O[i]?=some x:=⟨_,qd (by omega)⟩
       have ci:(O.flatMap Vn)[i]?=some (.int .i64 od):=VY (f:=Value.int .i64) bK false 1
       have i0:(0:Int)≤(i:Int):=by omega
       have cP:=o8 bO _ (by simp;omega) (bh _ _ cj)
       have bD:=o8 an _ (by simp;omega) (au _ _ bi)
       have bA:=o8 gB _ (by simp;omega) (au _ _ (aS _ _ bI))
       have w2:IntKind.i64.wrap ((i:Int)+1)=((i+1:Nat):Int):=by rw[Xl (by omega) (by omega)];omega
       have nz:(((n:Nat):Int)=0)=False:=eq_false (by omega)
       obtain⟨k,hk,v1,v2,v3,v4⟩:=pick_mod od n (by omega) (by omega) (hOw od (qf bK))
       refine QR (fun f M'=>∃(d:Dsk)(D:Dep)(W:List Int),f=[(2,.slice (some ⟨bO,0,none⟩) O.length cO),(3,.slice (some ⟨bF,0,none⟩) F.length cF),(4,.slice (some ⟨bB,0,none⟩) B.length cB),(11,.pointer (some ⟨H,0,none⟩)),(12,.pointer (some ⟨an,0,none⟩)),(13,.slice (some ⟨gW,0,none⟩) n n),(15,.pointer (some ⟨P,0,none⟩)),(16,.int .i64 (c:Nat)),(17,.int .i64 (i:Nat))]∧
        W.length=n∧DepAt M' P p q g d D∧Inn key xa (c+1) c ((i+1:Nat):Int) d D W∧M'.get gW=some (.cells false 1 (W.flatMap Vn))∧M4.size≤M'.size∧
        (∀b x,b∉ [gW,P0,p,q,g]→M4.get b=some x→M'.get b=some x)) ?_ ?_
       ·refine J8 ?_
        refine J0 (QN hmix 15 (by kernel_rfl) (by kernel_rfl) ?_)
        simp only[zZ,reduceIte,yQ,yW,yX,yZ,yJ,yK,yV,zDk,Jc,Jb,Ja,J9,XQ,i0,p1,and_self,cP,qe,ci,bD,k7,nz,v1,v2,v3,v4]
        refine J0 (R0 ?_)
        refine K0 (dstaged_spec P p q g d8 (some D8) _ M8 ⟨rfl,ah⟩) ?_
        obtain⟨tb,bg⟩:∃x,xa.blocks[k]?=some x:=⟨_,qd (by omega)⟩
        obtain⟨w,hw⟩:∃x,W8[k]?=some x:=⟨_,qd (by omega)⟩
        have dz:tb.length=224:=aA.size tb (qf bg)
        have aZ:(0:Int)≤(k:Int):=by omega
        have kn:(k:Int)<(n:Int):=by omega
        have cr:(xa.blocks.flatMap encS)[k]?=some (.string (str tb)):=VY (f:=fun s=>Value.string (str s)) bg false 1
        have dm:=aa.1
        have ab:=inn_stage aA (by omega) aa bg hw
        rw[cv]at ab
        refine J0 (R8 @bD @k7 @aZ @kn @and_self @bA @qe @cr ?_)
        refine⟨by kernel_rfl,_,stage_spec P p q g d8 D8 1 (k:Nat) tb (by omega) (by omega) M8 ah,?_⟩
        rintro _ M9 ⟨rfl,ae,aD,co⟩
        generalize Dep.stage d8 D8 1 (k:Nat) tb=X9 at ae ab
        obtain⟨d9,D9,e9⟩:=X9
        simp only at ae ab
        have aC:=aD gW _ aj aV
        have dd:=ab.1
        have dt:=aa.2.1 w (qf hw)
        have dv:=aa.le w (qf hw)
        have bY:(W8.flatMap Vn)[k]?=some (.int .i64 w):=VY (f:=Value.int .i64) hw false 1
        have u1:IntKind.i64.wrap (w+D9.staged)=w+D9.staged:=Xl (by omega) (by omega)
        have u2:IntKind.i64.wrap (w+D9.staged-D8.staged)=w+D9.staged-D8.staged:=Xl (by omega) (by omega)
        have aI:∀x,(Value.int .i64 x).cells.toList=[.int .i64 x]:=fun _=>rfl
        have pN:=put_num M9 gW W8 (k:=k) (by omega) (w+D9.staged-D8.staged)
        obtain⟨W9,aT⟩:∃W9,W9=W8.set k (w+D9.staged-D8.staged):=⟨_,rfl⟩
        rw[←aT]at pN ab
        refine S0 ?_
        refine J0 (CW_drawG hmix 11 (by kernel_rfl) (by kernel_rfl) ?_)
        simp only[zZ,reduceIte,yQ,yW,yX,yZ,yJ,yK,yV,zDk,Jc,Jb,Ja,J9,XQ,XN,JM,Qc,QB,isVal,sGuardedV,JJ,Q1,yY,qh,aZ,kn,and_self,aC,qe,bY]
        refine⟨by kernel_rfl,_,[],at0 (dstaged_spec P p q g d9 (some D9) _ M9 ⟨rfl,ae⟩),rfl,?_⟩
        simp only[zZ,reduceIte,yQ,yW,yX,yZ,yJ,yK,yV,zDk,Jc,Jb,Ja,J9,XQ,XN,JM,Qc,QB,isVal,sGuardedV,JJ,Q1,yY,qh,Option.map_some,Option.getD_some,u1,u2,aC,aI,pN,aZ,kn,and_self,qe]
        obtain⟨M10,ao⟩:∃M10,M10=M9.set gW (some (.cells false 1 (W9.flatMap Vn))):=⟨_,rfl⟩
        have aG:M10.get gW=some (.cells false 1 (W9.flatMap Vn)):=by rw[ao];exact Mem.get_set_same aC _
        have aM:Only [gW] M9 M10:=by rw[ao];exact Only.set (by simp) _
        have am:DepAt M10 P p q g d9 D9:=ae.nums aC aM aj
        have cZ:k<W9.length:=by rw[aT,List.length_set];omega
        have ca:(W9.flatMap Vn)[k]?=some (.int .i64 (w+D9.staged-D8.staged)):=VY (f:=Value.int .i64) (by rw[aT];exact List.getElem?_set_self (by omega)) false 1
        have de:=ab.le (w+D9.staged-D8.staged) (by rw[aT];exact List.mem_set (by omega) _)
        have u3:IntKind.i64.wrap (1+(c:Int))=1+(c:Int):=Xl (by omega) (by omega)
        have u4:decide (w+D9.staged-D8.staged>1+(c:Int))=false:=decide_eq_false (by omega)
        rw[←ao]
        refine J0 (R8 @aZ @kn @and_self @aG @qe @ca @u3 @u4 ?_)
        refine CF (J3 ?_)
        refine JK [2,3,4,11,12,13,15,16,17] ?_
        have ce:M10.size=M9.size:=by rw[ao,Mem.size_set]
        exact⟨M10,tR _,d9,D9,W9,by rw[aT,List.length_set];exact ak,am,by rw[Int.natCast_add];exact ab,aG,by omega,fun b x hb hx=>by
         have lb:=Mem.get_lt hx
         exact aM b x (by simp at hb ⊢;omega) (aD b x (by simp at hb ⊢;omega) (o8 b x hb hx))⟩
       ·rintro f M9 ⟨d9,D9,W9,rfl,bq,ae,ab,aC,cd,o9⟩
        refine R1 @w2 ?_
        refine JK [2,3,4,11,12,13,15,16,17] ?_
        exact⟨M9,tR _,20-(i+1),⟨i+1,d9,D9,W9,rfl,rfl,by omega,bq,ae,ab,aC,cd,o9⟩,by omega⟩
     ·rintro f M8 ⟨d8,D8,W8,rfl,ak,cH,ah,aE,aV,bw,o8⟩
      have bP:=o8 H _ (by simp at bp ⊢;omega) bc
      have bA:=o8 bB _ (by simp;omega) (bh _ _ cn)
      refine J0 (D9 8 @bP @j0 @aQ @c0 @q2 @and_self @bA @qe @cY ?_)
      refine⟨by kernel_rfl,_,crash_spec M8 p q g d8 ah.dsk bt,?_⟩
      rintro _ M9 ⟨rfl,cM,aD,co⟩
      have bS:=aD H _ (by simp at bp ⊢;omega) bP
      obtain⟨cU,D10,cE,aw⟩:=opn_again aA (by omega) aE (by omega) bt
      have os:=open_spec M9 p q g (d8.crash bt) cM (str S) (by rw[str_size];omega)
      rw[show(str S).data.toList=S from rfl,←aq,cE]at os
      refine S0 ?_
      refine J0 (CW_drawnG hmix [(8,9),(13,14)] (by kernel_rfl) ?_)
      simp only[zZ,reduceIte,yQ,yW,yX,yZ,yJ,yK,yV,zDk,Jc,Jb,Ja,J9,XQ,XN,JM,Qc,QB,isVal,sGuardedV,JJ,Q1,yY,qh,aQ,bS,j0,j4]
      refine⟨by kernel_rfl,_,os,?_⟩
      rintro _ M10 ⟨v,rfl,aJ,aX,cm⟩
      obtain⟨P',rfl,bG,am⟩:=aJ
      simp only[zZ,reduceIte,yQ,yW,yX,yZ,yJ,yK,yV,zDk,Jc,Jb,Ja,J9,XQ,XN,JM,Qc,QB,isVal,sGuardedV,JJ,Q1,yY,qh]
      refine J0 (J0 (R2 @q0 @pp_eql ?_))
      refine CF (J3 ?_)
      refine R0 ?_
      refine JK [2,3,4,11,12,13,15,16] ?_
      exact⟨M10,tR _,P',cU,D10,W8,rfl,ak,cH,am,aw,aX gW _ (by simp at aj ⊢;omega) (aD gW _ (by simp at aj ⊢;omega) aV),.inr (by omega),by omega,fun b x hb hx=>by
       have lb:=Mem.get_lt hx
       exact aX b x (by simp at hb ⊢;omega) (aD b x (by simp at hb ⊢;omega) (o8 b x hb hx))⟩
    ·rintro f M6 ⟨P',d',D',W',rfl,bb,bZ,bv,aH,ck,bG,cN,cA⟩
     refine R1 @w1 ?_
     refine JK [2,3,4,11,12,13,15,16] ?_
     exact⟨M6,tR _,8-(c+1),⟨c+1,P',d',D',W',rfl,rfl,by omega,bb,bZ,bv,aH,ck,bG,cN,cA⟩,by omega⟩
  ·rintro f M5 rfl
   refine J0 (R0 ?_)
   refine⟨by kernel_rfl,_,awake25_spec _,?_⟩
   rintro _ M6 ⟨rfl,_⟩
   refine S0 ?_
   refine T0 ?_
   first|exact⟨_,tR _,rfl⟩|exact⟨_,tR _⟩|exact⟨_,tR _,rfl,rfl⟩
theorem arg_nums{P:Program}{m:Mem}{B:Nat}{t e:TypeId}{v:Value}(hu:P.underlying t=some (.slice e))(he:P.underlying e=some (.int .i64))(hn:P.cellsOf e=1)(h:ArgOf P m B t v):
 ∃xs:List Int,Rd m 1 v xs.length (xs.flatMap fun n=>[.int .i64 n])∧(∀x∈xs, -9223372036854775808≤x∧x≤9223372036854775807)∧xs.length≤B:=by
 obtain⟨v',xs,e1,h1,h2,h3⟩:=ARep.list (fun n:Int=>[.int .i64 n]) (fun n=>(Lit.int .i64 n).wf=true) hu hn (fun cs hc=>by
  obtain⟨n,rfl,hw⟩:=hc.inv_int he
  exact⟨n,rfl,hw⟩) (arg_list hu h)
 cases e1
 exact⟨xs,h1,fun x hx=>by simpa[Lit.wf,IntKind.min,IntKind.max,IntKind.signed,IntKind.bits]using h3 x hx,h2.1⟩
end Go.Proofs.YteccmcpaheepcaaGreatDoor
