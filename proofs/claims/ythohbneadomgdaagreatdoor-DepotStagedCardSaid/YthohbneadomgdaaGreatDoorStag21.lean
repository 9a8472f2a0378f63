import Derived.Test.YthohbneadomgdaaGreatDoorStag20
import Derived.Test.YthohbneadomgdaaGreatDoorStag10
import Derived.Test.YthohbneadomgdaaGreatDoorStag09
import Derived.Test.YthohbneadomgdaaGreatDoorStag11
import Derived.Test.YthohbneadomgdaaGreatDoorStag14
import Derived.Test.YthohbneadomgdaaGreatDoorStag15
import Derived.Test.YthohbneadomgdaaGreatDoorStag19
import Derived.Test.YthohbneadomgdaaGreatDoorStag13
set_option linter.all false
set_option maxRecDepth 100000
set_option maxHeartbeats 16000000
open Nat renaming reduceLT→yQ,reduceEqDiff→yK,reduceAdd→yV,reduceSub→yY,reduceMul→yU
open Int renaming reduceToNat→yW,reduceLE→yX,reduceEq→yZ,reduceLT→yJ
open Go.Proofs.Tryz renaming prog→qd
open List renaming getElem?_eq_getElem→qe,getElem?_eq_some_iff→qh,replicate→qi,mem_of_getElem?→qj,getD_eq_getElem?_getD→qk,length_append→qo,length_singleton→qq,mem_singleton→qr,length_replicate→qt,length_filterMap_le→qu
open Int renaming toNat_natCast→qf
open Nat renaming sub_zero→qp
namespace Go.Proofs.YthohbneadomgdaaGreatDoor
open Go.RowKit Abs Stab
theorem may_small{L:List Ext}(h:∀x∈L,JC x=true):SmallE L:=fun x hx=>by
 obtain⟨a,b,c⟩:=Kk (h x hx)
 have:=Vh a
 exact⟨by omega,by omega⟩
theorem vmax(a b:Int):vMin false [.int .i64 a,.int .i64 b]=some (.int .i64 (max a b)):=by
 simp only[vMin,evMin,aMin2]
 by_cases h:a<b
 ·simp[h,Int.max_def];omega
 ·simp[h,Int.max_def];omega
def roomU(o:Option Int):Value:=match o with|none=>.tuple #[.int .i64 0,.bool false]|some a=>.tuple #[.int .i64 a,.bool true]
theorem room_spec(lo hi n:Int)(K:Nat)(M:Mem)(V:Value)(L:List Ext)(h:VC K M V L)(hl:L.length≤12)(hm:∀x∈L,JC x=true)(hn:1≤n)(hn2:n≤1000)(h0:0≤lo)(h1:lo≤hi)(h2:hi≤2000):
 Abs.Spec qd 31 [.int .i64 lo,.int .i64 hi,.int .i64 n,V] M fun u M'=>u=roomU (roomV lo hi n L)∧More M M':=by
 refine Uz Tryz.func31 Tryz.results31 Tryz.ntmps31 fun hc hx k=>?_
 have Z:Q5 qd 85=some (.cells false (J6 qd 85) noExt.cells):=al_Ext
 generalize J6 qd 85=s2 at Z
 have ag:∀x:Ext,(Value.agg x.cells.toArray).cells.toList=x.cells:=fun _=>rfl
 have af:∀(M0:Mem)(b:Nat)(x y:Ext),Ji 8 M0 b 0 y.cells (some (.cells false s2 x.cells))=some (M0.set b (some (.cells false s2 y.cells))):=fun _ _ _ _=>rfl
 have k2:∀x:Ext,cellIn 2 (some (.cells false s2 x.cells))=some (.int .i64 x.head.n):=fun _=>rfl
 have k7:∀x:Ext,cellIn 7 (some (.cells false s2 x.cells))=some (.int .i64 x.base):=fun _=>rfl
 have q1:decide (n<1)=false:=decide_eq_false (by omega)
 have q2:decide (lo<0)=false:=decide_eq_false (by omega)
 have q3:decide (hi<lo)=false:=decide_eq_false (by omega)
 refine J0 (R0 ?_)
 refine J0 (J0 (R3 @q1 @q2 @q3 ?_))
 refine CF (J3 ?_)
 simp only[zZ,reduceIte,yQ,yW,yX,yZ,yJ,yK,yV]
 refine J0 (R0 ?_)
 refine⟨by kernel_rfl,_,eclone_spec K M V L h (by omega),?_⟩
 rintro W M1 ⟨hW,ak,aH⟩
 refine S0 ?_
 have so:=sorte_own M.size M1 W L hW hl (may_small hm)
 unfold cmpE at so
 refine J0 (R0 ?_)
 refine⟨by kernel_rfl,_,so,?_⟩
 rintro _ M2 ⟨rfl,⟨R,hR,ah⟩,a2,hs2⟩
 have ad:More M M2:=⟨fun b y hb=>a2 b y (fun e=>by have:=(hW.live e).1;have:=Mem.get_lt hb;omega) (ak b y (by simp) hb),by omega⟩
 have an:∀x∈R,JC x=true:=fun x hx=>hm x ((hR.mem Vt x).1 hx)
 have aw:R.length≤12:=by rw[hR.len];exact hl
 obtain⟨a0,c0,hV⟩:=ah.len
 subst hV
 refine S0 ?_
 refine J0 (R0 ?_)
 refine QJ (fun f M'=>f=[(0,.int .i64 lo),(1,.int .i64 hi),(2,.int .i64 n),(11,.int .i64 (Xh n lo R))]∧0≤Xh n lo R∧Xh n lo R≤3000∧More M M') ?_ ?_
 ·refine J0 (R0 ?_)
  refine J7 (Jr (fun j f M'=>∃(i:Nat)(a:Int),j=R.length-i∧f=[(0,.int .i64 lo),(1,.int .i64 hi),(2,.int .i64 n),(11,.int .i64 a),(30,.slice a0 R.length c0),(31,.int .i64 (R.length:Nat)),(32,.int .i64 (i:Nat))]∧i≤R.length∧Xh n a (R.drop i)=Xh n lo R∧0≤a∧a≤3000∧More M2 M') R.length ?_ ?_)
  ·refine JK [0,1,2,11,30,31,32] ?_
   exact⟨M2,tR _,0,lo,rfl,rfl,by omega,rfl,h0,by omega,More.refl _⟩
  ·rintro j f M' ⟨i,a,rfl,rfl,aC,E,aq,am,O⟩
   refine J0 (R0 ?_)
   refine J0 (CC (decide ((i:Int)<(R.length:Int))) (fun hq=>J3 ?_) (fun hq=>Jn ?_))
   ·have ae:=of_decide_eq_true hq
    obtain⟨x,hX⟩:∃x,R[i]?=some x:=⟨_,qe (by omega)⟩
    obtain⟨g,rfl,_,hg⟩:=ah.at hX
    have a6:R.drop i=x::R.drop (i+1):=by
     have a8:i<R.length:=by omega
     rw[qe a8]at hX
     cases hX
     exact List.drop_eq_getElem_cons a8
    rw[a6,Xh]at E
    obtain⟨ao,aG,aA⟩:=Kk (an x (qj hX))
    have ay:=Vh ao
    have z0:(0:Int)≤(i:Int):=by omega
    have r1:=ext_row hX 8
    have gg:=O.get _ _ hg
    have ws:IntKind.i64.wrap (x.base-a)=x.base-a:=Xn (by omega) (by omega)
    have wa:IntKind.i64.wrap (x.base+x.head.n)=x.base+x.head.n:=Xn (by omega) (by omega)
    have w9:IntKind.i64.wrap ((i:Int)+1)=((i+1:Nat):Int):=by rw[Xn (by omega) (by omega)];omega
    obtain⟨M5,I⟩:∃M5,M5=(M'.push (.cells false s2 noExt.cells)).set M'.size (some (.cells false s2 x.cells)):=⟨_,rfl⟩
    obtain⟨ap,Y⟩:∃b,b=M'.size:=⟨_,rfl⟩
    have ac:M5.get ap=some (.cells false s2 x.cells):=by rw[I,Y];exact Mem.get_set_same (Mem.get_push_new _ _) _
    have aa:More M' M5:=⟨fun b x hb=>by
     have:=Mem.get_lt hb
     rw[I,Mem.get_set_ne (by omega),Mem.get_push_old this];exact hb,by rw[I,Mem.size_set,Mem.size_push];omega⟩
    simp only[zZ,reduceIte,yQ,yW,yX,yZ,yJ,yK,yV]
    refine J0 (J7 (J0 (J1 ?_)))
    simp only[zZ,reduceIte,yQ,yW,yX,yZ,yJ,yK,yV,zDk,Jc,Jb,Ja,J9,XO,z0,ae,and_self,qf,gg,r1,Z,Mem.get_push_new,ag,af]
    rw[←I,←Y]
    refine J0 (J0 (R3 @ac @k7 @ws ?_))
    refine CC (decide (n≤x.base-a)) (fun hq=>Jn ?_) (fun hq=>J3 ?_)
    ·rw[if_pos (of_decide_eq_true hq)]at E
     refine JK [0,1,2,11] ?_
     exact⟨_,tR _,by rw[E],by omega,by omega,(ad.trans O).trans aa⟩
    ·rw[if_neg (of_decide_eq_false hq)]at E
     simp only[zZ,reduceIte,yQ,yW,yX,yZ,yJ,yK,yV]
     refine R5 @ac @k7 @k2 @wa @vmax ?_
     refine R1 @w9 ?_
     refine JK [0,1,2,11,30,31,32] ?_
     exact⟨_,tR _,R.length-(i+1),⟨i+1,max a (x.base+x.head.n),rfl,rfl,by omega,E,by omega,by omega,O.trans aa⟩,by omega⟩
   ·have ae:=of_decide_eq_false hq
    rw[List.drop_of_length_le (by omega),Xh]at E
    refine JK [0,1,2,11] ?_
    exact⟨_,tR _,by rw[E],by omega,by omega,ad.trans O⟩
 rintro _ M3 ⟨rfl,aq,am,a7⟩
 have U:=roomV_greedy lo hi n L R hn h0 h1 (fun x=>hR.mem Vt x) hR.rising
 have ws:IntKind.i64.wrap (hi-Xh n lo R)=hi-Xh n lo R:=Xn (by omega) (by omega)
 refine J0 (J0 (R1 @ws ?_))
 refine CC (decide (n>hi-Xh n lo R)) (fun hq=>J0 (J1 ?_)) (fun hq=>J3 ?_)
 ·rw[if_pos (of_decide_eq_true hq)]at U
  refine S0 ?_
  refine T0 ?_
  exact⟨_,tR _,by rw[U];rfl,a7⟩
 ·rw[if_neg (of_decide_eq_false hq)]at U
  simp only[zZ,reduceIte,yQ,yW,yX,yZ,yJ,yK,yV]
  refine J0 (R0 ?_)
  refine T0 ?_
  exact⟨_,tR _,by rw[U];rfl,a7⟩
end Go.Proofs.YthohbneadomgdaaGreatDoor
namespace Go.Proofs.YthohbneadomgdaaGreatDoor
open Go.RowKit Abs
def chainH:List Bool→Option Bool
 | []=>some true
 |b::r=>match some b with
  |some true=>chainH r
  |some false=>some false
  |none=>none
theorem chainH_eq:∀l:List Bool,chainH l=some (l.all id)
 | []=>rfl
 |true::r=>by simp[chainH,chainH_eq r]
 |false::r=>by simp[chainH]
def sameH(x y:Header):Bool:=[x.id==y.id,beqB x.salt y.salt,x.n==y.n,x.bytes==y.bytes,x.raw==y.raw,beqB x.root y.root,beqB x.tag y.tag].all id
theorem sameH_iff(x y:Header):sameH x y=true↔x=y:=by
 obtain⟨a0,a1,a2,Z,Y,a5,a6⟩:=x
 obtain⟨I,b1,b2,b3,U,O,E⟩:=y
 unfold sameH
 simp only[List.all_cons,List.all_nil,id,Bool.and_true,Bool.and_eq_true,beq_iff_eq,decide_eq_true_eq,Header.mk.injEq,beqB_dec]
theorem sameH_self(x:Header):sameH x x=true:=(sameH_iff x x).2 rfl
theorem hdr_neq(cx:Bool)(x y:Header):aBin qd .neq 34 cx (.agg x.cells.toArray) (.agg y.cells.toArray)=some (.bool (!sameH x y)):=by
 obtain⟨a0,a1,a2,Z,Y,a5,a6⟩:=x
 obtain⟨I,b1,b2,b3,U,O,E⟩:=y
 have e0:aBin qd .neq 34 cx (.agg (Header.cells ⟨a0,a1,a2,Z,Y,a5,a6⟩).toArray) (.agg (Header.cells ⟨I,b1,b2,b3,U,O,E⟩).toArray)=(chainH [a0==I,beqB a1 b1,a2==b2,Z==b3,Y==U,beqB a5 O,beqB a6 E]).map fun b=>.bool (!b):=by cases cx<;>kernel_rfl
 rw[e0,chainH_eq,Option.map_some]
 rfl
theorem roomGo_in(n:Int)(l:List Ext):∀(k:Nat)(at' b:Int),roomGo n l k at'=some b→at'≤b∧b<at'+k
 |0,_,_,h=>by cases h
 |k+1,at',b,h=>by
  unfold roomGo at h
  split at h
  ·cases h;omega
  ·have:=roomGo_in n l k (at'+1) b h;omega
theorem roomV_in{lo hi n b:Int}{l:List Ext}(h:roomV lo hi n l=some b):lo≤b∧b+n≤hi:=by
 unfold roomV at h
 split at h
 ·cases h
 ·have:=roomGo_in n l _ _ b h;omega
theorem begin_rest{d:Dsk}{D:Dep}{h:Header}{i:Nat}{base:Int}{W Y:Dsk×Int}(hW:W=d.write ((1+i:Nat):Int) (JW ⟨⟨h,base⟩,qi h.n.toNat false⟩))(hY:Y=W.1.sync):
 Dep.begun d D h i base=(if W.2≠0 then(W.1,D,W.2)else if Y.2≠0 then(Y.1,D,Y.2)else(Y.1,{ D with opn:=D.opn.set i (some ⟨⟨h,base⟩,qi h.n.toNat false⟩) },0)):=by subst hW hY;rfl
theorem free_in{α:Type}:∀(l:List (Option α))(k i:Nat),X3 l k=some i→k≤i∧i<k+l.length
 | [],k,i,h=>by cases h
 |none::r,k,i,h=>by unfold X3 at h;cases h;simp
 |some a::r,k,i,h=>by
  unfold X3 at h
  have:=free_in r (k+1) i h
  simp only[List.length_cons]
  omega
theorem places_len{D:Dep}{n:Nat}(h:D.Ok n):D.places.length≤12:=by
 unfold Dep.places Qr
 have h2:=qu id D.kept
 have E:=qu id D.opn
 rw[h.kept]at h2
 rw[h.opn]at E
 rw[qo,List.length_map];omega
theorem verify_ok{h:Header}{key:List UInt8}(hv:h.verify key=0):h.okP:=(h.check_zero).1 (by
 unfold Header.verify at hv
 split at hv
 ·exact absurd hv (by decide)
 ·rename_i h1
  exact(Vm _).resolve_right h1)
theorem begin_spec(P p q g:Nat)(d:Dsk)(D:Dep)(hd:Header)(M:Mem)(h:DepAt M P p q g d D)(hkey:D.key.length≤1000000)(h13:13≤d.old.length):
 Abs.Spec qd 6 [.pointer (some ⟨P,0,none⟩),.agg hd.cells.toArray] M fun u M'=>u=.int .i64 (Dep.begin d D hd).2.2∧DepAt M' P p q g (Dep.begin d D hd).1 (Dep.begin d D hd).2.1∧Only [P,p,q,g] M M'∧M.size≤M'.size:=by
 obtain⟨Z,E⟩:∃Z,Z=Dep.begin d D hd:=⟨_,rfl⟩
 rw[←E]
 unfold Dep.begin at E
 have aj:=h.dsk.ok.n
 refine WM Tryz.func6 Tryz.results6 Tryz.ntmps6 fun _=>?_
 have bx:QU qd 34 (.agg hd.cells.toArray)=some (.cells false (J6 qd 34) hd.cells):=bx_Hdr _ rfl
 have ar:Q5 qd 34=some (.cells false (J6 qd 34) noHead.cells):=al_Hdr
 generalize J6 qd 34=s1 at bx ar
 have aq:Q5 qd 88=some (.cells false (J6 qd 88) noRec.cells):=al_Rec
 generalize J6 qd 88=s2 at aq
 have ae:∀(s:Nat)(x:Header),Js 7 0 (some (.cells false s x.cells))=some (.agg x.cells.toArray):=fun _ _=>rfl
 have k0:∀(s:Nat)(x:Header),cellIn 0 (some (.cells false s x.cells))=some (.int .i64 x.id):=fun _ _=>rfl
 have aM:∀x:Header,(Value.agg x.cells.toArray).cells.toList=x.cells:=fun _=>rfl
 have aI:∀(M0:Mem)(b:Nat)(x y:Header),Ji 7 M0 b 0 y.cells (some (.cells false s1 x.cells))=some (M0.set b (some (.cells false s1 y.cells))):=fun _ _ _ _=>rfl
 have aC:∀(s:Nat)(x:Rec),Js 13 0 (some (.cells false s x.cells))=some (.agg x.cells.toArray):=fun _ _=>rfl
 have aA:∀x:Rec,(Value.agg x.cells.toArray).cells.toList=x.cells:=fun _=>rfl
 have az:∀(M0:Mem)(b:Nat)(x y:Rec),Ji 13 M0 b 0 y.cells (some (.cells false s2 x.cells))=some (M0.set b (some (.cells false s2 y.cells))):=fun _ _ _ _=>rfl
 have bu:∀b:Int,Qm qd 85 [(0,.agg hd.cells.toArray),(1,.int .i64 b)]=some (.agg (⟨hd,b⟩:Ext).cells.toArray):=fun b=>by kernel_rfl
 have bq:∀(x:Ext)(l:List Bool),Qm qd 88 [(0,.agg x.cells.toArray),(1,QG l)]=some (.agg (⟨x,l⟩:Rec).cells.toArray):=fun x l=>by kernel_rfl
 obtain⟨b3,aX⟩:∃b,b=M.size:=⟨_,rfl⟩
 obtain⟨M1,aD⟩:∃M1,M1=M.push (.cells false s1 hd.cells):=⟨_,rfl⟩
 have a7:More M M1:=by rw[aD];exact More.push _ _
 have g3:M1.get b3=some (.cells false s1 hd.cells):=by rw[aD,aX,Mem.get_push_new]
 have h1:=h.same a7.get
 obtain⟨s,vo,vk,ab,ho,hk⟩:=h1.row
 have l4:vo.length=4:=by rw[ho.len,h1.ok.opn]
 have c0:∀s vo vk,cellIn 0 (some (.cells false s (JR p D vo vk)))=some (dp p):=fun _ _ _=>rfl
 have c1:∀s vo vk,cellIn 1 (some (.cells false s (JR p D vo vk)))=some (.string (str D.key)):=fun _ _ _=>rfl
 have a6:∀M':Mem,More M M'→Only [P,p,q,g] M M':=fun M' hm b x _ hb=>hm.get b x hb
 have ag:∀{M' M'':Mem},Only [p,q,g] M' M''→Only [P,p,q,g] M' M'':=fun h=>h.mono (by simp)
 refine J0 (R1 @bx ?_)
 rw[←aD,←aX]
 refine J0 (J0 (R0 ?_))
 refine CF (J3 ?_)
 refine S0 ?_
 refine J0 (J0 (R2 @ab @c0 ?_))
 refine K0 (dead_spec _ p q g d h1.dsk) ?_
 cases hdd:d.dead with
 |true=>
  rw[if_pos hdd]at E
  refine CT (J0 (R0 ?_))
  refine T0 ?_
  subst E
  exact⟨_,tR _,rfl,h1,a6 _ a7,by have:=a7.size;omega⟩
 |false=>
 rw[if_neg (by rw[hdd];decide)]at E
 refine CF (J3 ?_)
 refine S0 ?_
 refine J0 (J0 (D4 5 @ab @c1 @g3 @ae ?_))
 refine K0 (hverify_at D.key (by omega) hd _) ?_
 refine J0 (R0 ?_)
 refine CC (hd.verify D.key !=0) (fun hq=>J0 (R0 ?_)) (fun hq=>J3 ?_)
 ·rw[if_pos (by simpa using hq)]at E
  refine T0 ?_
  subst E
  exact⟨_,tR _,rfl,h1,a6 _ a7,by have:=a7.size;omega⟩
 have hv:hd.verify D.key=0:=by simpa using hq
 rw[if_neg (by simpa using hq)]at E
 have bl:=verify_ok hv
 have ca:=Vh bl
 refine S0 ?_
 refine J0 (J0 (R2 @g3 @k0 ?_))
 refine⟨by kernel_rfl,_,head_spec P p q g d (some D) _ hd.id M1 ⟨rfl,h1⟩,?_⟩
 rintro _ M2 ⟨rfl,bA⟩
 have he:headOr (some D) hd.id=D.headAt hd.id:=rfl
 rw[he]
 obtain⟨X,hX⟩:∃X,X=D.headAt hd.id:=⟨_,rfl⟩
 rw[←hX]at E ⊢
 refine S4 @ar @Mem.get_push_new @aM @aI ?_
 obtain⟨b6,aR⟩:∃b,b=M2.size:=⟨_,rfl⟩
 obtain⟨M3,ao⟩:∃M3,M3=(M2.push (.cells false s1 noHead.cells)).set M2.size (some (.cells false s1 X.1.cells)):=⟨_,rfl⟩
 rw[←ao,←aR]
 have g6:M3.get b6=some (.cells false s1 X.1.cells):=by rw[ao,aR];exact Mem.get_set_same (Mem.get_push_new _ _) _
 have be:More M2 M3:=⟨fun b x hb=>by
  have:=Mem.get_lt hb
  rw[ao,Mem.get_set_ne (by omega),Mem.get_push_old this];exact hb,by rw[ao,Mem.size_set,Mem.size_push];omega⟩
 have U:=bA.trans be
 have I:=a7.trans U
 have h3:=h1.same U.get
 have an:=U.get _ _ g3
 have O:=U.get _ _ ab
 refine J0 (R0 ?_)
 refine CC (X.2.2==0) (fun hq=>J0 (J0 (J1 ?_))) (fun hq=>J3 ?_)
 ·rw[if_pos (by simpa using hq)]at E
  have bn:=hdr_neq
  refine S4 @g6 @an @ae @bn ?_
  refine CC (!sameH X.1 hd) (fun hq=>J0 (R0 ?_)) (fun hq=>J3 ?_)
  ·refine T0 ?_
   rw[if_neg (fun e=>by rw[e,sameH_self]at hq;cases hq)]at E
   subst E
   exact⟨_,tR _,rfl,h3,a6 _ I,by have:=I.size;omega⟩
  refine S0 ?_
  refine J0 (R0 ?_)
  refine T0 ?_
  rw[if_pos ((sameH_iff _ _).1 (by simpa using hq))]at E
  subst E
  exact⟨_,tR _,rfl,h3,a6 _ I,by have:=I.size;omega⟩
 rw[if_neg (by simpa using hq)]at E
 have fr:=freerec_spec P 3 s 4 _ M3 _ vo D.opn O (fun i v hv=>by
  have:=(qh.1 hv).1
  rw[depC_opn _ _ _ _ l4 _ (by omega)];exact hv) (ho.same fun b x _ hb=>U.get b x hb) (by rw[h3.ok.opn];decide)
 rw[h3.ok.opn]at fr
 refine S0 ?_
 refine J0 (R2 @O @sl_A4 ?_)
 refine K0 (fr) ?_
 cases hF:X3 D.opn 0 with
 |none=>
  rw[hF]at E
  have e1:freeI (none:Option Nat)= -1:=rfl
  have q1:decide ((-1:Int)<0)=true:=rfl
  rw[e1]
  refine J0 (J0 (R1 @q1 ?_))
  refine CT (J0 (R0 ?_))
  refine T0 ?_
  subst E
  exact⟨_,tR _,rfl,h3,a6 _ I,by have:=I.size;omega⟩
 |some i=>
 rw[hF]at E
 have aV:i<4:=by have:=(free_in _ _ _ hF).2;rw[h3.ok.opn]at this;omega
 have e1:freeI (some i)=(i:Int):=rfl
 have q1:decide ((i:Int)<0)=false:=decide_eq_false (by omega)
 rw[e1]
 refine J0 (J0 (R1 @q1 ?_))
 refine CF (J3 ?_)
 have k2:∀(s:Nat),cellIn 2 (some (.cells false s hd.cells))=some (.int .i64 hd.n):=fun _=>rfl
 refine S0 ?_
 refine J0 (CW_drawnG hmix [(9,10),(14,15)] (by kernel_rfl) ?_)
 simp only[zZ,reduceIte,yQ,yW,yX,yZ,yJ,yK,yV,zDk,Jc,Jb,Ja,J9,XO,Zi,JN,Qj,QM,isVal,sGuardedV,JQ,Q6,yY,qp,O,c0,an,k2]
 refine⟨by kernel_rfl,_,[],at0 (dlen_spec _ p q g d h3.dsk),rfl,?_⟩
 simp only[zZ,reduceIte,yQ,yW,yX,yZ,yJ,yK,yV,zDk,Jc,Jb,Ja,J9,XO,Zi,JN,Qj,QM,isVal,sGuardedV,JQ,Q6,yY,qp,O,c0,an,k2]
 obtain⟨V,N,pe,pN,aT⟩:=places_exact P p q g d D M3 h3
 have bf:More M3 (M3.app N):=⟨fun b x hb=>ZV M3 N b x hb,by rw[K6];omega⟩
 refine⟨by kernel_rfl,_,N,pe,pN,?_⟩
 simp only[zZ,reduceIte,yQ,yW,yX,yZ,yJ,yK,yV,zDk,Jc,Jb,Ja,J9,XO,Zi,JN,Qj,QM,isVal,sGuardedV,JQ,Q6,yY,qp]
 refine⟨by kernel_rfl,_,room_spec 13 (d.old.length:Nat) hd.n _ _ V D.places aT (places_len h3.ok) (fun y hy=>fit_may (h3.ok.fit y hy) aj) (by omega) (by omega) (by omega) (by omega) (by omega),?_⟩
 rintro _ M5 ⟨rfl,bo⟩
 have a8:=bf.trans bo
 have ah:=I.trans a8
 have h5:=h3.same a8.get
 have bj:=a8.get _ _ an
 cases hR:roomV 13 (d.old.length:Nat) hd.n D.places with
 |none=>
  rw[hR]at E
  have e2:roomU none=.tuple #[.int .i64 0,.bool false]:=rfl
  rw[e2]
  simp only[zZ,reduceIte,yQ,yW,yX,yZ,yJ,yK,yV,zDk,Jc,Jb,Ja,J9,XO,Zi,JN,Qj,QM,isVal,sGuardedV,JQ,Q6,yY,qp]
  refine J0 (J0 (R0 ?_))
  refine CT (J0 (R0 ?_))
  refine T0 ?_
  subst E
  exact⟨_,tR _,rfl,h5,a6 _ ah,by have:=ah.size;omega⟩
 |some base=>
 rw[hR]at E
 have e2:roomU (some base)=.tuple #[.int .i64 base,.bool true]:=rfl
 rw[e2]
 simp only[zZ,reduceIte,yQ,yW,yX,yZ,yJ,yK,yV,zDk,Jc,Jb,Ja,J9,XO,Zi,JN,Qj,QM,isVal,sGuardedV,JQ,Q6,yY,qp]
 refine J0 (J0 (R0 ?_))
 refine CF (J3 ?_)
 obtain⟨bm,bw⟩:=roomV_in hR
 have au:fitX D.key d.old.length ⟨hd,base⟩:=⟨hv,bm,bw⟩
 have bz:JC ⟨hd,base⟩=true:=fit_may au aj
 obtain⟨nn,al⟩:∃nn:Nat,hd.n=(nn:Int):=⟨hd.n.toNat,by omega⟩
 have bC:∀(s:Nat),cellIn 2 (some (.cells false s hd.cells))=some (.int .i64 (nn:Nat)):=fun _=>by rw[←al];rfl
 obtain⟨R,ak⟩:∃R:Rec,R=⟨⟨hd,base⟩,qi nn false⟩:=⟨_,rfl⟩
 have bp:R.may=true:=by
  rw[ak]
  unfold Rec.may
  simp only[bz,qt,al,Bool.true_and]
  simp
 obtain⟨W,hW⟩:∃W,W=d.write ((1+i:Nat):Int) (JW R):=⟨_,rfl⟩
 obtain⟨Y,hY⟩:∃Y,Y=W.1.sync:=⟨_,rfl⟩
 have aZ:(⟨⟨hd,base⟩,qi hd.n.toNat false⟩:Rec)=R:=by rw[ak,al];rfl
 simp only at E
 rw[begin_rest (by rw[aZ];exact hW) hY,aZ]at E
 have aS:W.1.old.length=d.old.length:=by rw[hW];exact QL _ _ _
 have aa:Y.1.old.length=W.1.old.length:=by rw[hY];exact sync_len _
 refine S0 ?_
 refine J0 (D4 8 @bj @ae @bC @bu ?_)
 refine⟨by kernel_rfl,_,bnew_at nn (by omega) _,?_⟩
 have av:=bq ⟨hd,base⟩ (qi nn false)
 rw[←ak]at av
 refine S5 @av @aq @Mem.get_push_new @aA @az ?_
 obtain⟨a2,aw⟩:∃b,b=M5.size:=⟨_,rfl⟩
 obtain⟨M6,ap⟩:∃M6,M6=(M5.push (.cells false s2 noRec.cells)).set M5.size (some (.cells false s2 R.cells)):=⟨_,rfl⟩
 rw[←ap,←aw]
 have aN:M6.get a2=some (.cells false s2 R.cells):=by rw[ap,aw];exact Mem.get_set_same (Mem.get_push_new _ _) _
 have aQ:More M5 M6:=⟨fun b x hb=>by
  have:=Mem.get_lt hb
  rw[ap,Mem.get_set_ne (by omega),Mem.get_push_old this];exact hb,by rw[ap,Mem.size_set,Mem.size_push];omega⟩
 have ax:=ah.trans aQ
 have bV:=ax.size
 have h6:=h5.same aQ.get
 have nP:a2∉ [P,p,q,g]:=by
  obtain⟨_,_,_,e,_⟩:=h5.row
  have l1:=Mem.get_lt e
  obtain⟨_,e⟩:=h5.dsk.row
  have l2:=Mem.get_lt e
  have l3:=Mem.get_lt h5.dsk.kv
  have l4:=Mem.get_lt h5.dsk.old
  simp only[List.mem_cons,List.not_mem_nil,or_false]
  omega
 have b7:a2∉ [p,q,g]:=fun h=>nP (by simp at h ⊢;exact .inr h)
 have ns:=note_spec P p q g d D M6 h6 i aV R bp
 rw[←hW]at ns
 refine J0 (J0 (R2 @aN @aC ?_))
 refine⟨by kernel_rfl,_,ns,?_⟩
 rintro _ M7 ⟨rfl,h7,aY,cc⟩
 have o7:Only [P,p,q,g] M M7:=(a6 _ ax).trans (ag aY)
 refine S0 ?_
 refine J0 (R0 ?_)
 refine CC (W.2 !=0) (fun hq=>J0 (R0 ?_)) (fun hq=>J3 ?_)
 ·rw[if_pos (by simpa using hq)]at E
  refine T0 ?_
  subst E
  exact⟨_,tR _,rfl,h7,o7,by omega⟩
 rw[if_neg (by simpa using hq)]at E
 obtain⟨s7,bX,bO,aB,bN,bS⟩:=h7.row
 refine S0 ?_
 refine J0 (J0 (R2 @aB @c0 ?_))
 refine⟨by kernel_rfl,_,sync_spec _ p q g W.1 h7.dsk,?_⟩
 rintro _ M8 ⟨rfl,b5,aE,bQ⟩
 rw[←hY]at b5 ⊢
 have h8:=h7.disk b5 aa aE
 have o8:=o7.trans (ag aE)
 refine S0 ?_
 refine J0 (R0 ?_)
 refine CC (Y.2 !=0) (fun hq=>J0 (R0 ?_)) (fun hq=>J3 ?_)
 ·rw[if_pos (by simpa using hq)]at E
  refine T0 ?_
  subst E
  exact⟨_,tR _,rfl,h8,o8,by omega⟩
 rw[if_neg (by simpa using hq)]at E
 obtain⟨s8,ai,ad,ac,ay,aP⟩:=h8.row
 have bi:ai.length=4:=by rw[ay.len,h8.ok.opn]
 have bk:ad.length=8:=by rw[aP.len,h8.ok.kept]
 have ln:=U2 p D ai ad bi bk
 have z0:(0:Int)≤(i:Int):=by omega
 have z8:(i:Int)<((4:Nat):Int):=by omega
 have bB:(i:Int)<4:=by omega
 have aK:M8.get a2=some (.cells false s2 R.cells):=aE _ _ b7 (aY _ _ b7 aN)
 have aL:Ji 1 M8 P (3+i) [.pointer (some ⟨a2,0,none⟩)] (some (.cells false s8 (JR p D ai ad)))=some (M8.set P (some (.cells false s8 ((JR p D ai ad).set (3+i) (.pointer (some ⟨a2,0,none⟩)))))):=by
  simp only[Ji]
  rw[if_pos ⟨rfl,by show 3+i+1≤(JR p D ai ad).length;omega,rfl⟩]
  rfl
 have aW:=h8.turnO ay aP ac i aV (some R) (fun y hy=>by cases hy;rw[ak];exact⟨by rw[aa,aS];exact au,by rw[qt];exact al.symm⟩) (.pointer (some ⟨a2,0,none⟩)) ⟨a2,s2,nP,rfl,aK⟩
 refine S0 ?_
 refine J0 (R7 @ac @z0 @z8 @bB @and_self @qf @aL ?_)
 refine J0 (R0 ?_)
 refine T0 ?_
 subst E
 exact⟨_,tR _,rfl,aW,o8.trans (Only.set (by simp) _),by rw[Mem.size_set];omega⟩
theorem blocksD_len(d:Dsk)(x:Ext):(XC d x).1.length≤x.head.n.toNat:=by
 unfold XC
 split
 ·simp
 ·simp
theorem blocksD_size(d:Dsk)(x:Ext):∀b∈(XC d x).1,b.length≤224:=by
 unfold XC
 split
 ·intro b hb;simp at hb
 ·intro b hb
  obtain⟨i,_,rfl⟩:=List.mem_map.1 hb
  rw[List.length_take];omega
theorem commit_spec(P p q g:Nat)(d:Dsk)(D:Dep)(id:Int)(M:Mem)(h:DepAt M P p q g d D):
 Abs.Spec qd 18 [.pointer (some ⟨P,0,none⟩),.int .i64 id] M fun u M'=>u=.int .i64 (Dep.commit d D id).2.2∧DepAt M' P p q g (Dep.commit d D id).1 (Dep.commit d D id).2.1∧Only [P,p,q,g] M M'∧M.size≤M'.size:=by
 obtain⟨Z,E⟩:∃Z,Z=Dep.commit d D id:=⟨_,rfl⟩
 rw[←E]
 unfold Dep.commit at E
 have av:=h.dsk.ok.n
 refine WM Tryz.func18 Tryz.results18 Tryz.ntmps18 fun _=>?_
 have al:Q5 qd 85=some (.cells false (J6 qd 85) noExt.cells):=al_Ext
 generalize J6 qd 85=s1 at al
 have aC:∀(s:Nat)(x:Rec),Js 8 0 (some (.cells false s x.cells))=some (.agg x.x.cells.toArray):=fun _ _=>rfl
 have aM:∀(s:Nat)(x:Rec),Js 5 8 (some (.cells false s x.cells))=some (QG x.got):=fun _ _=>rfl
 have aj:∀(s:Nat)(x:Ext),Js 8 0 (some (.cells false s x.cells))=some (.agg x.cells.toArray):=fun _ _=>rfl
 have k5:∀(s:Nat)(x:Ext),cellIn 5 (some (.cells false s x.cells))=some (.string x.head.root):=fun _ _=>rfl
 have aR:∀x:Ext,(Value.agg x.cells.toArray).cells.toList=x.cells:=fun _=>rfl
 have aJ:∀(M0:Mem)(b:Nat)(x y:Ext),Ji 8 M0 b 0 y.cells (some (.cells false s1 x.cells))=some (M0.set b (some (.cells false s1 y.cells))):=fun _ _ _ _=>rfl
 have c0:∀s (D':Dep) vo vk,cellIn 0 (some (.cells false s (JR p D' vo vk)))=some (dp p):=fun _ _ _ _=>rfl
 have O:∀M':Mem,More M M'→Only [P,p,q,g] M M':=fun M' hm b x _ hb=>hm.get b x hb
 have aq:∀{M' M'':Mem},Only [p,q,g] M' M''→Only [P,p,q,g] M' M'':=fun h=>h.mono (by simp)
 refine J0 (R0 ?_)
 refine J0 (R0 ?_)
 refine⟨by kernel_rfl,_,find_spec P p q g d D id M h,?_⟩
 rintro _ M1 ⟨rfl,I⟩
 have h1:=h.same I.get
 have ab:=I.size
 obtain⟨s,vo,vk,Y,ho,hk⟩:=h1.row
 refine S0 ?_
 refine J0 (J7 (J0 (R2 @Y @c0 ?_)))
 refine K0 (dead_spec _ p q g d h1.dsk) ?_
 cases hdd:d.dead with
 |true=>
  rw[if_pos hdd]at E
  refine CT (J0 (R0 ?_))
  refine T0 ?_
  subst E
  exact⟨_,tR _,rfl,h1,O _ I,ab⟩
 |false=>
 rw[if_neg (by rw[hdd];decide)]at E
 refine CF (J0 (J1 ?_))
 cases hE:D.ext? id with
 |some y=>
  obtain⟨j,y⟩:=y
  rw[hE]at E
  have q1:decide ((j:Int)≥0)=true:=by simp
  simp only[Xk]
  refine S1 @q1 ?_
  refine CT (J0 (R0 ?_))
  refine T0 ?_
  subst E
  exact⟨_,tR _,rfl,h1,O _ I,ab⟩
 |none=>
 rw[hE]at E
 have q1:decide ((-1:Int)≥0)=false:=rfl
 simp only[Xl]
 refine S1 @q1 ?_
 refine CF (J0 (J1 ?_))
 cases hR:D.rec? id with
 |none=>
  rw[hR]at E
  have q2:decide ((-1:Int)<0)=true:=rfl
  simp only[Xl]
  refine S1 @q2 ?_
  refine CT (J0 (R0 ?_))
  refine T0 ?_
  subst E
  exact⟨_,tR _,rfl,h1,O _ I,ab⟩
 |some y=>
 obtain⟨j,r⟩:=y
 rw[hR]at E
 simp only at E
 obtain⟨hj,b,s',r1,bU,gb⟩:=h1.recAt (QP hR).1
 have aZ:=h1.ok.fitO r (qj (QP hR).1)
 obtain⟨fv,aE,az,bS⟩:=aZ
 have bT:=Vh (verify_ok fv)
 have ah:fitX D.key d.old.length r.x:=⟨fv,aE,az⟩
 have bm:JC r.x=true:=fit_may ah av
 have gl:r.got.length≤256:=by omega
 have q2:decide ((j:Int)<0)=false:=decide_eq_false (by omega)
 have z0:(0:Int)≤(j:Int):=by omega
 have z8:(j:Int)<((4:Nat):Int):=by omega
 have aw:(j:Int)<4:=by omega
 rw[Y]at r1
 simp only[Xk]
 refine S1 @q2 ?_
 refine CF (J0 (R9 @z0 @z8 @aw @and_self @qf @Y @r1 @gb @aM ?_))
 refine K0 (full_at r.got gl M1) ?_
 refine CC (!(r.got.all fun b=>b)) (fun hq=>J0 (R0 ?_)) (fun hq=>J3 ?_)
 ·rw[if_pos (by simpa using hq)]at E
  refine T0 ?_
  subst E
  exact⟨_,tR _,rfl,h1,O _ I,ab⟩
 rw[if_neg (by simpa using hq)]at E
 refine S0 ?_
 refine J0 (J1 ?_)
 simp only[zZ,reduceIte,yQ,yW,yX,yZ,yJ,yK,yV,zDk,Jc,Jb,Ja,J9,XO,z0,z8,aw,and_self,qf,Y,r1,gb,aC,al,Mem.get_push_new,aR,aJ]
 obtain⟨b7,ay⟩:∃b,b=M1.size:=⟨_,rfl⟩
 obtain⟨M2,ad⟩:∃M2,M2=(M1.push (.cells false s1 noExt.cells)).set M1.size (some (.cells false s1 r.x.cells)):=⟨_,rfl⟩
 rw[←ad,←ay]
 have g7:M2.get b7=some (.cells false s1 r.x.cells):=by rw[ad,ay];exact Mem.get_set_same (Mem.get_push_new _ _) _
 have aQ:More M1 M2:=⟨fun b x hb=>by
  have:=Mem.get_lt hb
  rw[ad,Mem.get_set_ne (by omega),Mem.get_push_old this];exact hb,by rw[ad,Mem.size_set,Mem.size_push];omega⟩
 have aN:=I.trans aQ
 have h2:=h1.same aQ.get
 refine J0 (R2 @g7 @aj ?_)
 refine⟨by kernel_rfl,_,blocks_spec P p q g d D M2 h2 r.x r.x.head.n.toNat (by omega) aE az,?_⟩
 rintro _ M3 ⟨V,rfl,ak,an⟩
 have aA:=aN.trans an
 have h3:=h2.same an.get
 have aB:=an.get _ _ g7
 have eb:(XC d r.x).2=0:=by unfold XC;rw[if_neg (by rw[hdd];simp)]
 rw[eb]
 have q3:((0:Int) !=0)=false:=rfl
 refine S0 ?_
 refine J0 (J0 (R1 @q3 ?_))
 refine CF (J3 ?_)
 obtain⟨L,hL⟩:∃L,L=(XC d r.x).1:=⟨_,rfl⟩
 have bE:L.length≤256:=by rw[hL];have:=blocksD_len d r.x;omega
 have bh:∀b∈L,b.length≤1000000:=fun b hb=>by rw[hL]at hb;have:=blocksD_size d r.x b hb;omega
 rw[←hL]at ak E
 obtain⟨N,pe,pN⟩:=aroot_exact L (by omega) bh M3 V ak.strs
 have ao:More M3 (M3.app N):=⟨fun b x hb=>ZV M3 N b x hb,by rw[K6];omega⟩
 refine S0 ?_
 refine J0 (J0 (CW_drawG hmix 5 (by kernel_rfl) (by kernel_rfl) ?_))
 simp only[zZ,reduceIte,yQ,yW,yX,yZ,yJ,yK,yV,zDk,Jc,Jb,Ja,J9,XO,Zi,JN,Qj,QM,isVal,sGuardedV,JQ,Q6,yY,qp]
 refine⟨by kernel_rfl,_,N,pe,pN,?_⟩
 obtain⟨M4,ac⟩:∃M4,M4=M3.app N:=⟨_,rfl⟩
 have a2:More M M4:=by rw[ac];exact aA.trans ao
 have h4:DepAt M4 P p q g d D:=by rw[ac];exact h3.same ao.get
 have b5:M4.get b7=some (.cells false s1 r.x.cells):=by rw[ac];exact ao.get _ _ aB
 have aP:=a2.size
 simp only[zZ,reduceIte,yQ,yW,yX,yZ,yJ,yK,yV,zDk,Jc,Jb,Ja,J9,XO,Zi,JN,Qj,QM,isVal,sGuardedV,JQ,Q6,yY,qp,aB,k5]
 rw[←ac]
 refine CC (!beqB (str (rootV L)) r.x.head.root) (fun hq=>J0 (R0 ?_)) (fun hq=>J3 ?_)
 ·rw[if_pos (fun e=>by rw[e,beqB_dec]at hq;simp at hq)]at E
  refine T0 ?_
  subst E
  exact⟨_,tR _,rfl,h4,O _ a2,aP⟩
 rw[if_neg (fun hne=>by
  apply hne
  rw[beqB_dec]at hq
  simpa using hq)]at E
 obtain⟨s4,b6,aF,aa,aU,aK⟩:=h4.row
 have bk:b6.length=4:=by rw[aU.len,h4.ok.opn]
 have b8:aF.length=8:=by rw[aK.len,h4.ok.kept]
 have fr:=freeext_spec P 7 s4 8 _ M4 _ aF D.kept aa (fun i v hv=>by
  have:=(qh.1 hv).1
  rw[depC_kept _ _ _ _ bk b8 _ (by omega)];exact hv) aK (by rw[h4.ok.kept];decide)
 rw[h4.ok.kept]at fr
 refine S0 ?_
 refine J0 (R2 @aa @sl_A8 ?_)
 refine K0 (fr) ?_
 cases hF:X3 D.kept 0 with
 |none=>
  rw[hF]at E
  have e1:freeI (none:Option Nat)= -1:=rfl
  have q4:decide ((-1:Int)<0)=true:=rfl
  rw[e1]
  refine J0 (J0 (R1 @q4 ?_))
  refine CT (J0 (R0 ?_))
  refine T0 ?_
  subst E
  exact⟨_,tR _,rfl,h4,O _ a2,aP⟩
 |some i=>
 rw[hF]at E
 simp only at E
 have aV:i<8:=by have:=(free_in _ _ _ hF).2;rw[h4.ok.kept]at this;omega
 have e1:freeI (some i)=(i:Int):=rfl
 have q4:decide ((i:Int)<0)=false:=decide_eq_false (by omega)
 rw[e1]
 refine J0 (J0 (R1 @q4 ?_))
 refine CF (J3 ?_)
 have ks:=keep_spec P p q g d D M4 h4 i aV r.x bm ah
 obtain⟨K,hK⟩:∃K,K=Dep.keep d D i r.x:=⟨_,rfl⟩
 rw[←hK]at ks E
 have bW:K.1.old.length=d.old.length:=by
  rw[hK,keep_rest]
  split
  ·exact QL _ _ _
  ·split
   ·exact(sync_len _).trans (QL _ _ _)
   ·exact(sync_len _).trans (QL _ _ _)
 refine S0 ?_
 refine J0 (J0 (R2 @b5 @aj ?_))
 refine⟨by kernel_rfl,_,ks,?_⟩
 rintro _ M5 ⟨rfl,h5,o5,bM⟩
 have aL:=(O _ a2).trans o5
 refine S0 ?_
 refine J0 (R0 ?_)
 refine CC (K.2.2 !=0) (fun hq=>J0 (R0 ?_)) (fun hq=>J3 ?_)
 ·rw[if_pos (by simpa using hq)]at E
  refine T0 ?_
  subst E
  exact⟨_,tR _,rfl,h5,aL,by omega⟩
 rw[if_neg (by simpa using hq)]at E
 have bf:K.2.1.opn=D.opn:=by
  rw[hK,keep_rest]
  split
  ·rfl
  ·split<;>rfl
 obtain⟨s5,a7,a6,a8,am,aS⟩:=h5.row
 have be:a7.length=4:=by rw[am.len,h5.ok.opn]
 have bb:a6.length=8:=by rw[aS.len,h5.ok.kept]
 have ln:=U2 p K.2.1 a7 a6 be bb
 have ag:Ji 1 M5 P (3+j) [.pointer none] (some (.cells false s5 (JR p K.2.1 a7 a6)))=some (M5.set P (some (.cells false s5 ((JR p K.2.1 a7 a6).set (3+j) (.pointer none))))):=by
  simp only[Ji]
  rw[if_pos ⟨rfl,by show 3+j+1≤(JR p K.2.1 a7 a6).length;omega,rfl⟩]
  rfl
 have h6:=h5.turnO am aS a8 j hj none (fun y hy=>by cases hy) (.pointer none) rfl
 rw[bf]at h6
 obtain⟨M6,au⟩:∃M6,M6=M5.set P (some (.cells false s5 ((JR p K.2.1 a7 a6).set (3+j) (.pointer none)))):=⟨_,rfl⟩
 have aY:Only [P,p,q,g] M M6:=by rw[au];exact aL.trans (Only.set (by simp) _)
 have bI:M6.size=M5.size:=by rw[au,Mem.size_set]
 rw[←au]at h6 ag
 obtain⟨s6,bN,bQ,ap,bw,bz⟩:=h6.row
 have w1:IntKind.i64.wrap (1+(j:Int))=((1+j:Nat):Int):=by rw[Xn (by omega) (by omega)];omega
 obtain⟨U,hU⟩:∃U,U=K.1.write ((1+j:Nat):Int) []:=⟨_,rfl⟩
 have ws:=Za M6 p q g K.1 h6.dsk ((1+j:Nat):Int) [] (by simp)
 rw[←hU]at ws E
 have bn:U.1.old.length=K.1.old.length:=by rw[hU];exact QL _ _ _
 refine S0 ?_
 refine J0 (R7 @a8 @z0 @z8 @aw @and_self @qf @ag ?_)
 refine J0 (R3 @ap @c0 @w1 ?_)
 refine⟨by kernel_rfl,_,ws,?_⟩
 rintro _ M7 ⟨rfl,aX,bi,bV⟩
 have ai:Only [p,q,g] M6 M7:=bi.mono (by simp)
 have h7:=h6.disk aX bn ai
 refine S0 ?_
 refine T0 ?_
 subst E
 exact⟨_,tR _,rfl,h7,aY.trans (aq ai),by omega⟩
end Go.Proofs.YthohbneadomgdaaGreatDoor
namespace Go.Proofs.YthohbneadomgdaaGreatDoor
open Go.RowKit Abs Stab
theorem Hdr_zero:Tryz.t34.zero=some (.agg noHead.cells.toArray):=by kernel_rfl
theorem Hdr_bytes:Tryz.t34.bytes≤1000:=by decide
theorem new_hdr1(x:Header):Jx qd 62 1 [(0,.agg x.cells.toArray)]=some (.cells false 7 x.cells):=by kernel_rfl
theorem hdapp{k:Nat}{M:Mem}{V:Value}{L:List Header}(h:Vp k M V L)(hk:k≤M.size)(hl:L.length≤1000000)(x:Header):
 ∃M' V',JM qd (M.push (.cells false 7 x.cells)) 62 62 V (.slice (some ⟨M.size,0,none⟩) 1 1)=some (V',M')∧Qp V'=some (M.size+1)∧Vp k M' V' (L++[x])∧
  M'.size=M.size+2∧(∀b y,Qp V≠some b→M.get b=some y→M'.get b=some y):=
 oapp Tryz.underlying62 inf_Hdr Hdr_zero sz_Hdr rfl Tryz.underlying62 (fun _=>rfl) Hdr_bytes h hk hl x 7
theorem keptcmp_ok:CmpOk 99:=by
 refine⟨by kernel_rfl,fun a b ha hb m=>?_⟩
 refine Abs.Spec.of_empty (by intro x hx;simp at hx;rcases hx with rfl|rfl<;>rfl) rfl ?_ m
 have w:IntKind.i64.wrap (a.id-b.id)=a.id-b.id:=Xn (by omega) (by omega)
 have I:QU qd 34 (.agg a.cells.toArray)=some (.cells false (J6 qd 34) a.cells):=bx_Hdr _ rfl
 have E:QU qd 34 (.agg b.cells.toArray)=some (.cells false (J6 qd 34) b.cells):=bx_Hdr _ rfl
 generalize J6 qd 34=s1 at I E
 have Y:∀h:Header,cellIn 0 (some (.cells false s1 h.cells))=some (.int .i64 h.id):=fun h=>rfl
 have U:(((⟨[]⟩:Mem).push (.cells false s1 a.cells)).push (.cells false s1 b.cells)).get (⟨[]⟩:Mem).size=some (.cells false s1 a.cells):=rfl
 have O:(((⟨[]⟩:Mem).push (.cells false s1 a.cells)).push (.cells false s1 b.cells)).get ((⟨[]⟩:Mem).push (.cells false s1 a.cells)).size=some (.cells false s1 b.cells):=rfl
 refine WM Tryz.func99 Tryz.results99 Tryz.ntmps99 fun _=>?_
 refine J0 (R2 @I @E ?_)
 refine J0 (R4 @U @O @Y @w ?_)
 refine T0 ?_
 first|exact⟨_,tR _,rfl⟩|exact⟨_,tR _⟩|exact⟨_,tR _,rfl,rfl⟩
theorem kept_spec(P p q g:Nat)(d:Dsk)(D:Dep)(M:Mem)(h:DepAt M P p q g d D):
 Abs.Spec qd 50 [.pointer (some ⟨P,0,none⟩)] M fun u M'=>Vp M.size M' u D.keptL∧More M M':=by
 refine WM Tryz.func50 Tryz.results50 Tryz.ntmps50 fun _=>?_
 obtain⟨s,vo,vk,ab,ho,hk⟩:=h.row
 have l4:vo.length=4:=by rw[ho.len,h.ok.opn]
 have l8:vk.length=8:=by rw[hk.len,h.ok.kept]
 have rk:=row_kept s p D l4 l8
 have z9:∀i:Nat,i<100→IntKind.i64.wrap ((i:Int)+1)=((i+1:Nat):Int):=fun i hi=>by rw[Xn (by omega) (by omega)];omega
 refine J0 (R0 ?_)
 refine J0 (R0 ?_)
 refine QJ (fun f M'=>∃V,f=[(3,V)]∧Vp M.size M' V ((D.kept.filterMap id).map Ext.head)∧(∀b x,b<M.size→M.get b=some x→M'.get b=some x)∧M.size≤M'.size) ?_ ?_
 ·refine J0 (R0 ?_)
  refine CT (J0 (R2 @ab @rk ?_))
  refine J7 (Jr (fun j f M'=>∃(i:Nat)(V:Value),j=8-i∧f=[(3,V),(11,.agg vk.toArray),(12,.int .i64 (i:Nat))]∧i≤8∧
   Vp M.size M' V (((D.kept.take i).filterMap id).map Ext.head)∧(∀b x,b<M.size→M.get b=some x→M'.get b=some x)∧M.size≤M'.size) 8 ?_ ?_)
  ·refine JK [3,11,12] ?_
   exact⟨M,tR _,0,_,rfl,rfl,by omega,OwnL.nil _ _,fun _ _ _ h=>h,Nat.le_refl _⟩
  ·rintro j f M' ⟨i,V,rfl,rfl,hi,E,I,a2⟩
   refine J0 (R0 ?_)
   refine J0 (CC (decide ((i:Int)<8)) (fun hq=>J3 ?_) (fun hq=>Jn ?_))
   ·have ag:=of_decide_eq_true hq
    obtain⟨o,aa⟩:∃o,D.kept[i]?=some o:=⟨_,qe (by rw[h.ok.kept];omega)⟩
    obtain⟨v,hv,hp⟩:=hk.at_ i o aa
    have ix:=ix_A8 l8 hv
    have Z:=filtm_step aa
    have w9:=z9 i (by omega)
    refine S0 ?_
    refine J0 (J7 (J0 (R1 @ix ?_)))
    refine J0 (J1 ?_)
    cases o with
    |none=>
     obtain rfl:v=.pointer none:=hp
     rw[Option.toList_none,List.append_nil]at Z
     refine S0 ?_
     refine CF (J3 ?_)
     refine S0 ?_
     refine R1 @w9 ?_
     refine JK [3,11,12] ?_
     exact⟨_,tR _,8-(i+1),⟨i+1,V,rfl,rfl,by omega,by rw[Z];exact E,I,a2⟩,by omega⟩
    |some x=>
     obtain⟨b,s',hb,rfl,gb⟩:=hp
     rw[Option.toList_some]at Z
     have ae:=I _ _ (Mem.get_lt gb) gb
     have rx:Js 7 0 (some (.cells false s' x.cells))=some (.agg (x.head).cells.toArray):=rfl
     have nw:=new_hdr1 (x.head)
     obtain⟨M4,V4,ad,ap,U,az,a7⟩:=hdapp E a2 (by have:=filtm_len D.kept i;rw[h.ok.kept]at this;rw[List.length_map];omega) (x.head)
     refine S0 ?_
     refine CT (R4 @ae @rx @nw @ad ?_)
     refine R1 @w9 ?_
     refine JK [3,11,12] ?_
     have e4:((D.kept.take i).filterMap id).map Ext.head++[x.head]=((D.kept.take (i+1)).filterMap id).map Ext.head:=by rw[Z,List.map_append];rfl
     rw[e4]at U
     exact⟨_,tR _,8-(i+1),⟨i+1,V4,rfl,rfl,by omega,U,fun b y hb hy=>a7 b y (fun e=>by have:=(E.live e).1;omega) (I b y hb hy),by omega⟩,by omega⟩
   ·have ag:=of_decide_eq_false hq
    obtain rfl:i=8:=by omega
    rw[List.take_of_length_le (by rw[h.ok.kept];decide)]at E
    refine JK [3] ?_
    exact⟨_,tR _,V,rfl,E,I,a2⟩
 rintro _ M2 ⟨V2,rfl,O,a6,hs2⟩
 have so:=sorth_own 99 keptcmp_ok M.size M2 V2 _ O (by rw[List.length_map];have:=qu id D.kept;rw[h.ok.kept]at this;omega) (fun x hx=>by
  obtain⟨y,hy,rfl⟩:=List.mem_map.1 hx
  obtain⟨o,af,ac⟩:=List.mem_filterMap.1 hy
  cases ac
  have:=(verify_ok (h.ok.fitK y af).1)
  have h1:=this.1
  have h2:=this.2.1
  exact⟨by omega,by omega⟩)
 unfold cmpH at so
 refine J0 (R0 ?_)
 refine⟨by kernel_rfl,_,so,?_⟩
 rintro _ M3 ⟨rfl,⟨R,hR,Y⟩,a8,aB⟩
 rw[heads_eq hR]at Y
 refine S0 ?_
 refine J0 (R0 ?_)
 refine T0 ?_
 exact⟨_,tR _,Y,fun b x hb=>a8 b x (fun e=>by have:=(O.live e).1;have:=Mem.get_lt hb;omega) (a6 b x (Mem.get_lt hb) hb),by omega⟩
end Go.Proofs.YthohbneadomgdaaGreatDoor
namespace Go.Proofs.YthohbneadomgdaaGreatDoor
open Go.RowKit Abs
theorem hdrs_len{k:Nat}{M:Mem}{V:Value}{L:List Header}(h:Vp k M V L):∃a c,V=.slice a L.length c:=OwnL.len h
theorem awake25_spec(M:Mem):Abs.Spec qd 17 [] M fun u M'=>u=.bool true∧More M M':=by
 obtain⟨key,Z⟩:∃k,k=Sha.headKey ([115]:List UInt8):=⟨_,rfl⟩
 have aG:key.length≤1000000:=by rw[Z,V8];decide
 obtain⟨A,hA⟩:∃A,A=Vo [115] saltL 1 hello 1000:=⟨_,rfl⟩
 have U:Ut [115] [hello]=[A]:=by rw[hA];rfl
 have au:ArcOk key A:=by
  have:=(made_ok (sec:=[115]) (T:=[hello]) (a:=A) (by rw[U];simp)).1
  rw[Z];exact this
 have a8:A.blocks.length=1:=by rw[hA,arcOf_len];rfl
 obtain⟨b0,af⟩:∃b,A.blocks[0]?=some b:=⟨_,qe (by omega)⟩
 have aX:b0.length=224:=au.size b0 (qj af)
 have aI:A.head.id=1:=by rw[hA];rfl
 obtain⟨d1,G,d2,d3,w1,w2,w3⟩:=wake_plain key A au a8 b0 af
 rw[aI]at w2 w3
 have e1:(⟨#[115]⟩:ByteArray)=str [115]:=rfl
 have e5:(⟨#[104,101,108,108,111]⟩:ByteArray)=str hello:=rfl
 have q0:((0:Int) !=0)=false:=rfl
 have q1:((1:Int) !=1)=false:=rfl
 have q2:((0:Int)==0)=true:=rfl
 have q3:(((1:Nat):Int)==1)=true:=rfl
 have q4:(((0:Nat):Int) !=0)=false:=rfl
 refine WM Tryz.func17 Tryz.results17 Tryz.ntmps17 fun _=>?_
 refine J0 (R0 ?_)
 refine J0 (R0 ?_)
 refine⟨by kernel_rfl,_,new_spec M 20 (by decide) (by decide),?_⟩
 rintro _ M1 ⟨p,q,g,rfl,aa,hp,hq,hg,aE,br⟩
 have ag:dp p=.pointer (some ⟨p,0,none⟩):=rfl
 have pl:p<M1.size:=by obtain⟨s,h⟩:=aa.row;exact Q9 h
 have ql:q<M1.size:=Q9 aa.kv
 have gl:g<M1.size:=Q9 aa.old
 refine S0 ?_
 obtain⟨M2,Y⟩:∃M2,M2=M1.push (.cells false 1 (encS hello)):=⟨_,rfl⟩
 have hs2:M2.size=M1.size+1:=by rw[Y,Mem.size_push]
 have nw:=Vi hello
 have rd:StrsRd M2 (.slice (some ⟨M1.size,0,none⟩) 1 1) [hello]:=⟨_,_,rfl,Nat.le_refl _,(fun e=>by cases e),fun i x hx=>by
  obtain rfl:i=0:=by
   cases i with
   |zero=>rfl
   |succ i=>cases hx
  cases hx
  exact⟨M1.size,0,false,_,rfl,by rw[Y,Mem.get_push_new],rfl⟩⟩
 refine J0 (R3 @e1 @e5 @nw ?_)
 rw[←Y]
 refine⟨by kernel_rfl,_,made_spec [115] (by decide) [hello] (by decide) (by intro t ht;simp at ht;subst ht;decide) M2 _ rd,?_⟩
 rintro VL M3 ⟨LA,aw,ab,ad⟩
 rw[U]at aw
 obtain⟨x,rfl,hx⟩:∃x,LA=[x]∧x.1=A:=by
  match LA,aw with
  | [x],h=>exact⟨x,rfl,by simpa using h⟩
 obtain⟨O,xv⟩:=x
 obtain rfl:O=A:=hx
 have aU:DskAt M3 p q g (Q8 20):=(aa.same fun b x hb=>by rw[Y,Mem.get_push_old (Mem.get_lt hb)];exact hb).same ad.get
 have bi:=ad.size
 rcases ab.1 with⟨h0,_⟩|⟨_,gA,bG,rfl,ax⟩
 ·cases h0
 have ap:=ab.2 _ (qr.2 rfl)
 simp only at ap
 rcases ap with⟨h0,_⟩|⟨_,gB,bA,rfl,aD⟩
 ·rw[h0]at a8;cases a8
 rw[a8]
 have az:M3.get gA=some (.cells false 8 (Qg O.head (.slice (some ⟨gB,0,none⟩) 1 1))):=by
  rw[ax]
  simp only[List.flatMap_cons,List.flatMap_nil,List.append_nil]
  unfold arcV
  rw[a8]
 have an:∀s,Js 7 0 (some (.cells false s (Qg O.head (.slice (some ⟨gB,0,none⟩) 1 1))))=some (.agg O.head.cells.toArray):=fun _=>rfl
 have aP:∀s,cellIn 7 (some (.cells false s (Qg O.head (.slice (some ⟨gB,0,none⟩) 1 1))))=some (.slice (some ⟨gB,0,none⟩) 1 1):=fun _=>rfl
 have cB:cellIn 0 (some (.cells false 1 (O.blocks.flatMap encS)))=some (.string (str b0)):=by
  show(O.blocks.flatMap fun s=>[Value.string (str s)])[0]?=_
  rw[XM,List.getElem?_map,af];rfl
 have lA:=Mem.get_lt ax
 have lB:=Mem.get_lt aD
 refine S1 @qq.{0} ?_
 refine J0 (J0 (R2 @q0 @ag ?_))
 refine CF (J3 ?_)
 refine S0 ?_
 refine J0 (R2 @e1 @ag ?_)
 have os:=open_spec M3 p q g (Q8 20) aU (str [115]) (by decide)
 rw[show(str [115]).data.toList=([115]:List UInt8)from rfl,←Z,open_new 20 (by decide) (by decide) key,ag]at os
 refine⟨by kernel_rfl,_,os,?_⟩
 rintro _ M4 ⟨v,rfl,aj,ac,bJ⟩
 obtain⟨P,rfl,hP,E⟩:=aj
 have E:DepAt M4 P p q g (JU 20) (Dp0 key 1 0):=E
 have aL:=ac gA _ (by simp;omega) az
 have aN:=ac gB _ (by simp;omega) aD
 have aV:((some (Dp0 key 1 0):Option Dep).map Dep.epoch).getD 0=1:=rfl
 have av:=depoch_spec P p q g (JU 20) (some (Dp0 key 1 0)) _ M4 ⟨rfl,E⟩
 rw[aV]at av
 refine S0 ?_
 refine J0 (J0 (R1 @q0 ?_))
 refine K1 @q1 (av) ?_
 refine⟨by kernel_rfl,_,kept_spec P p q g (JU 20) (Dp0 key 1 0) M4 E,?_⟩
 rintro K M5 ⟨hK,I⟩
 rw[kept_d0]at hK
 obtain⟨aK,cK,rfl⟩:=hdrs_len hK
 refine S2 @List.length_nil.{0} @q4 ?_
 refine CF (J3 ?_)
 have ay:=E.same I.get
 have aq:=I.get _ _ aL
 have aJ:=I.get _ _ aN
 have z0:(0:Int)≤0:=by omega
 have z1:(0:Int)<((1:Nat):Int):=by omega
 have aC:(0:Int)<1:=by omega
 have z2:(0:Int).toNat=0:=rfl
 have bs:=begin_spec P p q g (JU 20) (Dp0 key 1 0) O.head M5 ay aG (by simp[JU])
 rw[w1]at bs
 refine S0 ?_
 refine J0 (R8 @z0 @z1 @aC @z2 @and_self @Nat.zero_mul @aq @an ?_)
 refine⟨by kernel_rfl,_,bs,?_⟩
 rintro _ M6 ⟨rfl,am,ae,bp⟩
 have aW:=ae gA _ (by simp;have:=I.size;omega) aq
 have aQ:=ae gB _ (by simp;have:=I.size;omega) aJ
 have ss:=stage_spec P p q g d1 (Xm key O 1 0 G) 1 0 b0 (by omega) ⟨by show(-1000000:Int)≤0;decide,by show(0:Int)≤1000000000;decide⟩ M6 am
 rw[w2]at ss
 refine S0 ?_
 refine J0 (J1 ?_)
 simp only[zZ,reduceIte,yQ,yW,yX,yZ,yJ,yK,yV,zDk,Jc,Jb,Ja,J9,XO,z0,z1,aC,z2,and_self,Nat.zero_mul,aW,aP,aQ,cB]
 refine⟨by kernel_rfl,_,ss,?_⟩
 rintro _ M7 ⟨rfl,ar,aR,bL⟩
 have cs:=commit_spec P p q g d2 (Xm key O 1 1 [true]) 1 M7 ar
 rw[w3]at cs
 refine S0 ?_
 refine J0 (R0 ?_)
 refine⟨by kernel_rfl,_,cs,?_⟩
 rintro _ M8 ⟨rfl,ao,aT,bg⟩
 refine S0 ?_
 refine J0 (R1 @q2 ?_)
 refine⟨by kernel_rfl,_,kept_spec P p q g d3 (Dp2 key O 1 1) M8 ao,?_⟩
 rintro K M9 ⟨hK,ai⟩
 rw[kept_d2]at hK
 obtain⟨aK,cK,rfl⟩:=hdrs_len hK
 refine S2 @qq.{0} @q3 ?_
 refine T0 ?_
 have old:∀b x,M.get b=some x→M9.get b=some x:=fun b x hb=>by
  have l:=Mem.get_lt hb
  have a1:=aE b x (by simp) hb
  have a2:M2.get b=some x:=by rw[Y,Mem.get_push_old (by omega)];exact a1
  have a3:=ad.get b x a2
  have a4:=ac b x (by simp;omega) a3
  have a5:=I.get b x a4
  have a6:=ae b x (by simp;omega) a5
  have a7:=aR b x (by simp;omega) a6
  exact ai.get b x (aT b x (by simp;omega) a7)
 first|exact⟨_,tR _,rfl,old,by have:=I.size;have:=ai.size;omega⟩|exact⟨_,tR _,old,by have:=I.size;have:=ai.size;omega⟩
def encN(x:Int):List Value:=[.int .i64 x]
abbrev Um(k:Nat)(M:Mem)(V:Value)(L:List Int):Prop:=OwnL encN 1 k M V L
theorem new_num1(x:Int):Jx qd 22 1 [(0,.int .i64 x)]=some (.cells false 1 (encN x)):=by kernel_rfl
theorem napp{k:Nat}{M:Mem}{V:Value}{L:List Int}(h:Um k M V L)(hk:k≤M.size)(hl:L.length≤1000000)(x:Int):
 ∃M' V',JM qd (M.push (.cells false 1 (encN x))) 22 22 V (.slice (some ⟨M.size,0,none⟩) 1 1)=some (V',M')∧Qp V'=some (M.size+1)∧Um k M' V' (L++[x])∧
  M'.size=M.size+2∧(∀b y,Qp V≠some b→M.get b=some y→M'.get b=some y):=
 oapp Tryz.underlying22 inf_Int (show Tryz.t3.zero=some (.int .i64 0)from rfl) sz_Int rfl Tryz.underlying22 (fun _=>rfl) (show Tryz.t3.bytes≤1000 by decide) h hk hl x 1
abbrev NumsRd(M:Mem)(v:Value)(X:List Int):Prop:=Rd M 1 v X.length (X.flatMap encN)
theorem pick_mod(x:Int)(n:Nat)(h1:1≤n)(h2:n≤1000)(hx: -9223372036854775808≤x∧x≤9223372036854775807):∃k:Nat,k<n∧IntKind.i64.wrap (x.tmod (n:Int))=x.tmod (n:Int)∧IntKind.i64.wrap (x.tmod (n:Int)+(n:Int))=x.tmod (n:Int)+(n:Int)∧
 (x.tmod (n:Int)+(n:Int)).tmod (n:Int)=((k:Nat):Int)∧IntKind.i64.wrap ((k:Nat):Int)=((k:Nat):Int):=by
 have I:(0:Int)<(n:Int):=by omega
 have U:=Int.tmod_lt_of_pos x I
 have Y:=Int.lt_tmod_of_pos x I
 have E:0≤x.tmod (n:Int)+(n:Int):=by omega
 have e:(x.tmod (n:Int)+(n:Int)).tmod (n:Int)=(x.tmod (n:Int)+(n:Int))%(n:Int):=Int.tmod_eq_emod_of_nonneg E
 have Z:=Int.emod_nonneg (x.tmod (n:Int)+(n:Int)) (show(n:Int)≠0 by omega)
 have O:=Int.emod_lt_of_pos (x.tmod (n:Int)+(n:Int)) I
 refine⟨((x.tmod (n:Int)+(n:Int))%(n:Int)).toNat,by omega,Xn (by omega) (by omega),Xn (by omega) (by omega),by rw[e];omega,Xn (by omega) (by omega)⟩
theorem fuse31_le(x:Int):bits .and .i64 x 31≤9223372036854775807:=by
 have E:(BitVec.ofInt 64 31).toNat=2^5-1:=by decide
 have key:(BitVec.ofInt 64 x&&&BitVec.ofInt 64 31).toNat=(x%((2^64:Nat):Int)).toNat%2^5:=by
  rw[BitVec.toNat_and,BitVec.toNat_ofInt,E,Nat.and_two_pow_sub_one_eq_mod]
 show IntKind.i64.wrap ((BitVec.ofInt 64 x&&&BitVec.ofInt 64 31).toNat:Nat)≤_
 rw[key,IntKind.wrap_i64]
 omega
theorem flat_num(L:List Int):L.flatMap encN=L.map (Value.int .i64):=XM (Value.int .i64) L
theorem PtrsAt.nums{α:Type}{enc:α→List Value}{K:List Nat}{M M':Mem}{l:List (Option α)}{vs:List Value}(henc:∀a,∃t,(enc a)[1]?=some (.string t))(h:PtrsAt enc K M l vs){g:Nat}{W:List Int}
 (hw:M.get g=some (.cells false 1 (W.flatMap encN))) (ho:Only [g] M M'):PtrsAt enc K M' l vs:=
 ⟨h.len,fun i o hi=>by
  obtain⟨v,h1,h2⟩:=h.at_ i o hi
  refine⟨v,h1,?_⟩
  cases o with
  |none=>exact h2
  |some a=>
   obtain⟨b,s,k1,k2,k3⟩:=h2
   refine⟨b,s,k1,k2,ho b _ ?_ k3⟩
   simp only[qr]
   rintro rfl
   rw[hw]at k3
   have k4:=Option.some.inj k3
   injection k4 with _ _ e
   obtain⟨t,ht⟩:=henc a
   rw[←e,flat_num,List.getElem?_map]at ht
   cases hx:W[1]?<;>rw[hx]at ht<;>cases ht⟩
theorem DepAt.nums{M M':Mem}{P p q g:Nat}{d:Dsk}{D:Dep}(h:DepAt M P p q g d D){gW:Nat}{W:List Int}(hw:M.get gW=some (.cells false 1 (W.flatMap encN)))(ho:Only [gW] M M')(hn:gW∉ [P,p,q,g]):DepAt M' P p q g d D:=by
 obtain⟨Y,I,⟨s,vo,vk,U,h2,O⟩,E⟩:=h
 simp at hn
 exact⟨Y.only ho (by simp;omega) (by simp;omega) (by simp;omega),I,⟨s,vo,vk,ho P _ (by simp;omega) U,h2.nums (fun _=>⟨_,rfl⟩) hw ho,O.nums (fun _=>⟨_,rfl⟩) hw ho⟩,E⟩
section
variable {key : List UInt8} {a : Arc} {d : Dsk} {D : Dep} {e : Nat} {ep st : Int} {Gp G : List Bool}
theorem cat_full(hk:ArcOk key a)(hl:a.blocks.length≤6):JL (Jf (JA a.ext))≠ []:=fun h=>by
 have h1:=Ux h
 rw[catTake_text (Uh hk hl)]at h1
 have:=congrArg Prod.snd h1
 exact absurd this (show¬((0:Int)=8) by decide)
end
section
variable {key : List UInt8} {a : Arc} {d : Dsk} {D : Dep} {e : Nat} {ep st : Int} {Gp G : List Bool}
def Z5(d d':Dsk):Prop:=∀s,d'.poss 5 s→d.poss 5 s
theorem z5_write(d:Dsk){i:Int}(hi:i≠5)(x:List UInt8):Z5 d (d.write i x).1:=fun s h=>by
 unfold Dsk.write at h
 split at h
 ·exact h
 ·rename_i hm
  split at h
  ·exact h
  ·split at h
   ·exact Dsk.burnt_poss.1 h
   ·have h0:¬(i<0∨(d.old.length:Int)≤i):=fun q=>hm (by
     unfold Dsk.may
     by_cases hd:d.dead=true
     ·rw[if_pos hd];decide
     ·rw[if_neg hd,if_pos q];decide)
    rcases Dsk.put_poss h with q|⟨q,_⟩
    ·exact Dsk.burnt_poss.1 q
    ·omega
theorem z5_sync(d:Dsk)(hn:0<d.old.length):Z5 d d.sync.1:=fun s h=>Dsk.sync_poss hn h
theorem write_n(d:Dsk)(i:Int)(x:List UInt8):(d.write i x).1.old.length=d.old.length:=by
 unfold Dsk.write
 split
 ·rfl
 ·split
  ·rfl
  ·split
   ·rw[Qb]
   ·show(d.burnt.put i.toNat _).old.length=_
    unfold Dsk.put
    rw[Qb]
theorem z5_thenD{β:Type}{d:Dsk}{w:Dsk×Int}{bad:Dsk→Int→β}{ok:Dsk→β}{f:β→Dsk}{n:Nat}(hw:Z5 d w.1∧w.1.old.length=n)(hb:∀d' e,Z5 d d'→Z5 d (f (bad d' e)))(ho:∀d',Z5 d d'→d'.old.length=n→Z5 d (f (ok d'))):Z5 d (f (thenD w bad ok)):=by
 unfold thenD
 split
 ·exact hb _ _ hw.1
 ·exact ho _ hw.1 hw.2
theorem z5_staged1(d:Dsk)(p:Dep)(r:Rec)(i:Int)(s:List UInt8)(hn:0<d.old.length)(hi:r.x.base+i≠5):Z5 d (Dep.staged1 d p 0 r i s).1:=by
 unfold Dep.staged1
 refine z5_thenD (f:=fun z:Dsk×Dep×Int=>z.1) ⟨z5_write d hi s,write_n d _ s⟩ (fun d' e h=>h) fun d' h hn'=>?_
 refine z5_thenD (f:=fun z:Dsk×Dep×Int=>z.1) (n:=d.old.length) ⟨fun t ht=>h t (z5_sync d' (by omega) t ht),by rw[Dsk.sync_len (by omega)];exact hn'⟩ (fun d' e h=>h) fun d'' h hn''=>?_
 exact z5_thenD (f:=fun z:Dsk×Dep×Int=>z.1) (n:=d.old.length) ⟨fun t ht=>h t (z5_write d'' (i:=((1+0:Nat):Int)) (by decide) _ t ht),by rw[write_n];exact hn''⟩ (fun d' e h=>h) fun d' h _=>h
theorem countT_set:∀(l:List Bool)(k:Nat),l[k]?=some false→ZD (l.set k true)=ZD l+1
 | [],k,h=>by simp at h
 |x::l,0,h=>by
  simp only[List.getElem?_cons_zero,Option.some.injEq]at h
  subst h
  simp[ZD]
 |x::l,k+1,h=>by
  simp only[List.getElem?_cons_succ]at h
  have:=countT_set l k h
  unfold ZD at this ⊢
  cases x<;>simp[this]
structure Don(n:Nat)(Gp G:List Bool)(L:List Int):Prop where
 len:G.length=n
 cnt:ZD G=L.length
 all:∀x∈L,∃k:Nat,x=(k:Int)∧G[k]?=some true
 but:∀(i:Nat)(x:Int),i+1<L.length→L[i]?=some x→∃k:Nat,x=(k:Int)∧Gp[k]?=some true
 le:∀k:Nat,Gp[k]?=some true→G[k]?=some true
theorem Don.nil(n:Nat):Don n (qi n false) (qi n false) [] where
 len:=qt
 cnt:=by
  unfold ZD
  induction n with
  |zero=>rfl
  |succ n ih=>rw[List.replicate_succ];simp
 all x h:=by cases h
 but i x h:=by simp at h
 le k h:=h
theorem Don.add{n:Nat}{L:List Int}(h:Don n Gp G L){k:Nat}(hk:G[k]?=some false):Don n G (G.set k true) (L++[(k:Int)]):=by
 have E:=(qh.1 hk).1
 have I:∀j:Nat,G[j]?=some true→(G.set k true)[j]?=some true:=fun j hj=>by
  rw[List.getElem?_set]
  split
  ·rename_i e;subst e;exact absurd (hk.symm.trans hj) (by simp)
  ·exact hj
 refine⟨by rw[List.length_set];exact h.len,by rw[countT_set G k hk,h.cnt,qo];rfl,fun x hx=>?_,fun i x hi hx=>?_,fun j hj=>I j hj⟩
 ·rcases List.mem_append.1 hx with hx|hx
  ·obtain⟨j,O,h2⟩:=h.all x hx
   exact⟨j,O,I j h2⟩
  ·exact⟨k,qr.1 hx,by rw[List.getElem?_set_self E]⟩
 ·simp only[qo,qq]at hi
  rw[List.getElem?_append_left (by omega)]at hx
  exact h.all x (qj hx)
structure Stg(key:List UInt8)(a:Arc)(Gp G:List Bool)(d:Dsk)(D:Dep):Prop where
 dep:∃ep st,D=Xm key a ep st G∧0≤st∧st≤30
 hist:Hist a d 1 fun X=>X=Gp∨X=G
 one:∀s,d.poss 1 s→s=Jf (Xf a Gp)∨s=Jf (Xf a G)
 five:∀s,d.poss 5 s→JL s=[]
 lenp:(Gp.length:Int)=a.head.n
 len:(G.length:Int)=a.head.n
theorem jou_full(hk:ArcOk key a)(hl:a.blocks.length≤6){G:List Bool}(hG:(G.length:Int)=a.head.n):JL (Jf (Xf a G))≠ []:=fun h=>by
 have h1:=Z1 h
 unfold Xf at h1
 rw[Km (r:=⟨a.ext,G⟩) (Uh hk hl) hG]at h1
 have:=congrArg Prod.snd h1
 exact absurd this (show¬((0:Int)=8) by decide)
theorem staged_open(hk:ArcOk key a)(hl:a.blocks.length≤6)(h:Stg key a Gp G d D)(bits:Int):
 ∃d' ep X,openD (d.crash bits) key=(d',some (Xm key a ep 0 X),0)∧(X=Gp∨X=G)∧Sess a 2 d' X X∧d'.live∧d'.old.length≤1024:=by
 obtain⟨d',D',Y,h2⟩:=reopen hk hl (h.hist.crash bits) (Dsk.crash_live d bits) (crash_clean d bits) (by decide)
 have hn:=h.hist.n
 have O:∀i,i<d.old.length→d.poss i ((d.crash bits).sector i):=fun i hi=>(Dsk.crash_poss (Dsk.poss_sector (by rw[Dsk.crash_len];exact hi))).1
 have I:=h2.hist.ok.n
 rcases h2.how with⟨_,E,_⟩|⟨X,_,_,Z,⟨ep,rfl⟩,U⟩|⟨E,_⟩
 ·rcases h.one _ (O 1 (by omega))with e|e
  ·exact absurd (by rw[←e];exact E) (jou_full hk hl h.lenp)
  ·exact absurd (by rw[←e];exact E) (jou_full hk hl h.len)
 ·exact⟨d',ep,X,Y,Z,U,h2.live,I⟩
 ·exact absurd (by rw[←E];exact h.five _ (O 5 (by omega))) (cat_full hk hl)
theorem stg_stage(hk:ArcOk key a)(hl:a.blocks.length≤6){j:Int}{L:List Int}(hs:Sess a 1 d Gp G)(hd:d.dead=false)(h0:0≤st)(hj:st≤j)(hj2:j≤29)(hdon:Don a.blocks.length Gp G L){k:Nat}{b:List UInt8}(hb:a.blocks[k]?=some b)(hG:G.getD k false=false)(hlp:(Gp.length:Int)=a.head.n):
 ((Dep.stage d (Xm key a ep st G) a.head.id (k:Int) b).2.2=0∧(Dep.stage d (Xm key a ep st G) a.head.id (k:Int) b).2.1=Xm key a ep (st+1) (G.set k true)∧Sess a 1 (Dep.stage d (Xm key a ep st G) a.head.id (k:Int) b).1 G (G.set k true)∧
   (Dep.stage d (Xm key a ep st G) a.head.id (k:Int) b).1.dead=false∧Don a.blocks.length G (G.set k true) (L++[(k:Int)]))∨
 ((Dep.stage d (Xm key a ep st G) a.head.id (k:Int) b).2.2=7∧Stg key a Gp G (Dep.stage d (Xm key a ep st G) a.head.id (k:Int) b).1 (Dep.stage d (Xm key a ep st G) a.head.id (k:Int) b).2.1):=by
 have Y:=(qh.1 hb).1
 have I:G[k]?=some false:=by
  rw[qk]at hG
  have:k<G.length:=by rw[hdon.len];exact Y
  rw[qe this]at hG ⊢
  simp only[Option.getD_some]at hG
  rw[hG]
 have z:=z5_staged1 d (Xm key a ep st G) ⟨a.ext,G⟩ (k:Int) b (by have:=hs.hist.n;omega) (by show(13:Int)+k≠5;omega)
 rw[stage_d1 hk hd hb,if_neg (by rw[hG];decide)]
 rcases sess_stage (ep:=ep) (st:=st) hk hl hs hd k b hb hG with⟨b1,U,Z,E,_⟩|⟨_,U,⟨O,Z,E⟩,b5,b6,_⟩
 ·exact .inl ⟨b1,U,Z,E,hdon.add I⟩
 ·refine .inr ⟨U,⟨ep,O,E,by omega,by omega⟩,b5,b6,fun s h=>hs.five s (z s h),hlp,hs.len⟩
theorem sess_stg{j:Int}(hs:Sess a 1 d Gp G)(h0:0≤st)(hj:st≤30)(hlp:(Gp.length:Int)=a.head.n):Stg key a Gp G d (Xm key a ep st G):=
 ⟨⟨ep,st,rfl,h0,hj⟩,hs.hist,hs.one,hs.five,hlp,hs.len⟩
theorem staged_block(hk:ArcOk key a){X:List Bool}(h:Sess a e d X X)(hlv:d.live){k:Nat}{b:List UInt8}(hb:a.blocks[k]?=some b)(hX:X[k]?=some true)(hn:13+k<d.old.length):Dep.block d (Xm key a ep st X) a.head.id (k:Int)=(b,0):=by
 have I:=(qh.1 hb).1
 have hl:=hk.len
 unfold Dep.block
 rw[d1_ext,d1_rec]
 simp only
 have E:X.getD ((k:Int)).toNat false=true:=by rw[qf,qk,hX];rfl
 rw[E]
 unfold Dep.block1
 rw[if_neg (by show¬((k:Int)<0∨a.head.n≤(k:Int));omega),if_neg (by decide),if_neg (by rw[hlv.1];decide)]
 have:d.sector (13+k)=Jf b:=h.sure k b hX hb _ (Dsk.poss_sector hn)
 show((d.sector ((13:Int).toNat+((k:Int)).toNat)).take 224,(0:Int))=_
 rw[show(13:Int).toNat+((k:Int)).toNat=13+k by simp,this,take_filled (hk.size b (qj hb))]
theorem within_of{X G:List Bool}(h:∀k:Nat,X[k]?=some true→G[k]?=some true):QA X G 256=true:=by
 unfold QA
 rw[List.all_eq_true]
 intro i _
 simp only[qk]
 cases hX:X[i]? with
 |none=>rfl
 |some x=>
  cases x
  ·rfl
  ·rw[h i hX];rfl
end
theorem snext_spec(l:List Bool)(hl:l.length≤256)(i:Nat)(hi:i≤1000)(m:Mem):
 Abs.Spec qd 48 [QG l,.int .i64 (i:Nat),.bool true] m fun u M'=>(∃r:Int,u=.int .i64 r∧(r= -1∨∃j:Nat,r=(j:Int)∧i≤j∧l[j]?=some true))∧More m M':=by
 have bx:=bx_set l
 generalize J6 qd 43=s1 at bx
 obtain⟨I,E⟩:∃I,I=m.push (.cells false s1 (setCells l)):=⟨_,rfl⟩
 have Y:I.get m.size=some (.cells false s1 (setCells l)):=by rw[E,Mem.get_push_new]
 have Z:More m I:=by rw[E];exact More.push _ _
 have k0:cellIn 0 (some (.cells false s1 (setCells l)))=some (.int .i64 (l.length:Nat)):=rfl
 have O:Js 5 0 (some (.cells false s1 (setCells l)))=some (QG l):=rfl
 have mx:vMin false [.int .i64 (i:Nat),.int .i64 0]=some (.int .i64 (i:Nat)):=by
  have h:aMin2 false (.int .i64 (i:Nat)) (.int .i64 0)=some (.int .i64 (i:Nat)):=by
   simp only[aMin2]
   first|rfl|(simp;omega)
  simp only[vMin,evMin,h]
 have bq:∀x:Bool,aBin qd .eql 4 false (.bool x) (.bool true)=some (.bool x):=fun x=>by cases x<;>kernel_rfl
 refine WM Tryz.func48 Tryz.results48 Tryz.ntmps48 fun _=>?_
 refine J0 (R1 @bx ?_)
 rw[←E]
 refine QJ (fun f M'=>f=[]∧M'=I) ?_ ?_
 ·refine J0 (R1 @mx ?_)
  refine J7 (Jr (fun j f M'=>∃t:Nat,j=l.length-t∧f=[(0,QG l),(2,.bool true),(3,.pointer (some ⟨m.size,0,none⟩)),(7,.int .i64 (t:Nat))]∧i≤t∧t≤2000∧M'=I) (l.length-i) ?_ ?_)
  ·refine JK [0,2,3,7] ?_
   exact⟨I,tR _,i,rfl,rfl,Nat.le_refl _,by omega,rfl⟩
  ·rintro j f M' ⟨t,rfl,rfl,U,a7,rfl⟩
   refine J0 (J0 (R2 @Y @k0 ?_))
   refine(CC (decide ((t:Int)<(l.length:Int))) (fun hq=>J3 ?_) (fun hq=>Jn ?_))
   ·have a6:=of_decide_eq_true hq
    have w1:IntKind.i64.wrap ((t:Int)+1)=((t+1:Nat):Int):=by rw[Xn (by omega) (by omega)];omega
    have hh:=has_at l hl (t:Nat) M'
    refine S0 ?_
    refine J0 (J7 (J0 (R2 @Y @O ?_)))
    refine K1 @bq (hh) ?_
    refine CC (hasV l (t:Nat)) (fun hb=>J0 (J1 ?_)) (fun hb=>J3 ?_)
    ·have hj:l[t]?=some true:=by
      unfold hasV at hb
      simp[qk]at hb
      cases hx:l[t]? with
      |none=>rw[hx]at hb;cases hb
      |some x=>rw[hx]at hb;simp at hb;rw[hb]
     refine S0 ?_
     refine T0 ?_
     exact⟨_,tR _,⟨(t:Int),rfl,.inr ⟨t,rfl,U,hj⟩⟩,Z⟩
    ·refine S0 ?_
     refine R1 @w1 ?_
     refine JK [0,2,3,7] ?_
     exact⟨_,tR _,l.length-(t+1),⟨t+1,rfl,rfl,by omega,by omega,rfl⟩,by omega⟩
   ·refine S0 ?_
    refine JK [] ?_
    exact⟨_,tR _,rfl⟩
 ·rintro f M2 ⟨rfl,rfl⟩
  refine J0 (R0 ?_)
  refine T0 ?_
  exact⟨_,tR _,⟨-1,rfl,.inl rfl⟩,Z⟩
theorem slist_spec(l:List Bool)(hl:l.length≤256)(m:Mem):
 Abs.Spec qd 15 [QG l] m fun u M'=>∃L:List Int,Um m.size M' u L∧(∀x∈L,∃j:Nat,x=(j:Int)∧l[j]?=some true)∧More m M'∧L.length≤256:=by
 have bx:=bx_set l
 generalize J6 qd 43=s1 at bx
 obtain⟨M1,Z⟩:∃M1,M1=m.push (.cells false s1 (setCells l)):=⟨_,rfl⟩
 have g1:M1.get m.size=some (.cells false s1 (setCells l)):=by rw[Z,Mem.get_push_new]
 have mo:More m M1:=by rw[Z];exact More.push _ _
 have a6:Js 5 0 (some (.cells false s1 (setCells l)))=some (QG l):=rfl
 refine WM Tryz.func15 Tryz.results15 Tryz.ntmps15 fun _=>?_
 refine J0 (R1 @bx ?_)
 rw[←Z]
 refine J0 (R0 ?_)
 refine QJ (fun f M'=>∃(V:Value)(L:List Int),f=[(3,V)]∧Um m.size M' V L∧(∀x∈L,∃j:Nat,x=(j:Int)∧l[j]?=some true)∧More m M'∧L.length≤256) ?_ ?_
 ·refine J0 (R2 @g1 @a6 ?_)
  refine⟨by kernel_rfl,_,snext_spec l hl 0 (by decide) M1,?_⟩
  rintro _ M2 ⟨⟨r,rfl,hr⟩,ah⟩
  refine S0 ?_
  refine J7 (Jr (fun c f M'=>∃(V:Value)(L:List Int)(r:Int),f=[(1,.pointer (some ⟨m.size,0,none⟩)),(3,V),(4,.int .i64 r)]∧Um m.size M' V L∧(∀x∈L,∃j:Nat,x=(j:Int)∧l[j]?=some true)∧More M1 M'∧L.length≤256∧
   ((r= -1∧c=0)∨∃j:Nat,r=(j:Int)∧l[j]?=some true∧c=300-j∧L.length≤j)) (match r with|.ofNat j=>300-j|.negSucc _=>0) ?_ ?_)
  ·refine JK [1,3,4] ?_
   refine⟨M2,tR _,_,[],r,rfl,OwnL.nil _ _,(fun x hx=>by cases hx),ah,by simp,?_⟩
   rcases hr with rfl|⟨j,rfl,_,hj⟩
   ·exact .inl ⟨rfl,rfl⟩
   ·exact .inr ⟨j,rfl,hj,rfl,Nat.zero_le _⟩
  ·rintro c f M3 ⟨V,L,r,rfl,E,hL,I,U,hr⟩
   refine J0 (J0 (R0 ?_))
   refine(CC (decide (r≥0)) (fun hq=>J3 ?_) (fun hq=>Jn ?_))
   ·have aB:=of_decide_eq_true hq
    obtain⟨j,rfl,hj,rfl,ar⟩:∃j:Nat,r=(j:Int)∧l[j]?=some true∧c=300-j∧L.length≤j:=by
     rcases hr with⟨rfl,_⟩|h
     ·omega
     ·exact h
    have aA:=(qh.1 hj).1
    have w1:IntKind.i64.wrap ((j:Int)+1)=((j+1:Nat):Int):=by rw[Xn (by omega) (by omega)];omega
    have z3:=I.size
    have z1:=mo.size
    obtain⟨M5,V5,ha,aE,O,aw,ai⟩:=napp E (by omega) (by omega) (j:Int)
    have af:Qp V≠some m.size:=fun e=>by
     rcases E with⟨_,rfl⟩|⟨_,g,hg,rfl,a8⟩
     ·cases e
     ·cases e
      have h1:=I.get _ _ g1
      have a8:M3.get m.size=_:=a8
      rw[a8]at h1
      have k4:=Option.some.inj h1
      injection k4 with _ _ e2
      have:=congrArg (fun x=>x[1]?) e2
      rw[flat_num]at this
      simp[setCells,List.getElem?_map]at this
    have ay:M1.size=m.size+1:=by rw[Z,Mem.size_push]
    have a7:More M1 M5:=⟨fun b x hx=>by
     refine ai _ _ (fun e=>?_) (I.get _ _ hx)
     have h1:=(E.live e).1
     have h2:=Mem.get_lt hx
     obtain rfl:b=m.size:=by omega
     exact af e,by omega⟩
    have g5:=a7.get _ _ g1
    refine S0 ?_
    refine J0 ?_
    refine J7 (R2 @new_num1 @ha ?_)
    refine R3 @g5 @a6 @w1 ?_
    refine⟨by kernel_rfl,_,snext_spec l hl (j+1) (by omega) M5,?_⟩
    rintro _ M6 ⟨⟨r,rfl,hr⟩,Y⟩
    refine S0 ?_
    refine JK [1,3,4] ?_
    have aa:∀x∈L++[(j:Int)],∃j:Nat,x=(j:Int)∧l[j]?=some true:=fun x hx=>by
     rcases List.mem_append.1 hx with hx|hx
     ·exact hL x hx
     ·exact⟨j,qr.1 hx,hj⟩
    rcases hr with rfl|⟨i2,rfl,aD,ab⟩
    ·exact⟨M6,tR _,0,⟨V5,L++[(j:Int)], -1,rfl,O.same fun b x _ hx=>Y.get b x hx,aa,a7.trans Y,by rw[qo];simp;omega,.inl ⟨rfl,rfl⟩⟩,by omega⟩
    ·have:=(qh.1 ab).1
     exact⟨M6,tR _,300-i2,⟨V5,L++[(j:Int)],(i2:Int),rfl,O.same fun b x _ hx=>Y.get b x hx,aa,a7.trans Y,by rw[qo];simp;omega,.inr ⟨i2,rfl,ab,rfl,by rw[qo];simp;omega⟩⟩,by omega⟩
   ·refine S0 ?_
    refine JK [3] ?_
    exact⟨M3,tR _,V,L,rfl,E,hL,mo.trans I,U⟩
 ·rintro f M3 ⟨V,L,rfl,E,hL,I,U⟩
  refine J0 (R0 ?_)
  refine T0 ?_
  exact⟨_,tR _,L,E,hL,I,U⟩
theorem d1_got(key:List UInt8)(a:Arc)(ep st:Int)(G:List Bool):(Xm key a ep st G).got a.head.id=(G,0):=by unfold Dep.got;rw[d1_rec]
theorem has_nat(G:List Bool)(k:Nat):hasV G (k:Int)=G.getD k false:=by
 unfold hasV
 rw[decide_eq_true (by omega),Bool.true_and,qf]
theorem depot_staged(sec text:List UInt8)(hsec:sec.length≤4000000000000000000)(htext:text.length≤4000000000000000000)(O:List Int)(hOw:∀x∈O, -9223372036854775808≤x∧x≤9223372036854775807)(hlO:O.length≤4000000000000000000)(fu bt:Int)(M:Mem)(vO:Value)(rO:NumsRd M vO O):
 Abs.Spec qd 3 [.string (str sec),.string (str text),vO,.int .i64 fu,.int .i64 bt] M fun u _=>u=.bool true:=by
 obtain⟨S,hS⟩:∃S,S=sec.take 100:=⟨_,rfl⟩
 have eT:S.length≤100:=by rw[hS,List.length_take];omega
 obtain⟨key,aD⟩:∃key,key=Sha.headKey S:=⟨_,rfl⟩
 have ca:key.length≤1000000:=by rw[aD,V8];decide
 obtain⟨A,hA⟩:∃A,A=Vo S saltL ((1+0:Nat):Int) (ZC text) 1000:=⟨_,rfl⟩
 have cJ:S.take 100=S:=by rw[hS,List.take_take];simp
 have aN:Ut S [text]=[A]:=by unfold Ut;rw[cJ,hA];rfl
 have cX:=made_ok (sec:=S) (T:=[text]) (a:=A) (by rw[aN];simp)
 rw[cJ,←aD]at cX
 obtain⟨a6,_,_,ec⟩:=cX
 have aQ:A.head.id=1:=by rw[hA,arcOf_id];rfl
 have bk:1≤A.blocks.length:=by
  have h1:=Vh a6.may
  have h2:=a6.len
  omega
 obtain⟨n,hn⟩:∃n,n=A.blocks.length:=⟨_,rfl⟩
 have ap:∀b,ptr b=.pointer (some ⟨b,0,none⟩):=fun _=>rfl
 have dX:∀b,dp b=.pointer (some ⟨b,0,none⟩):=fun _=>rfl
 have q0:((0:Int) !=0)=false:=rfl
 have j0:∀s d p e q L,cellIn 0 (some (.cells false s (Qs d p e q S L)))=some d:=fun _ _ _ _ _ _=>rfl
 have j1:∀s d p e q L,cellIn 1 (some (.cells false s (Qs d p e q S L)))=some p:=fun _ _ _ _ _ _=>rfl
 have j4:∀s d p e q L,cellIn 4 (some (.cells false s (Qs d p e q S L)))=some (.string (str S)):=fun _ _ _ _ _ _=>rfl
 have j5:∀s d p e q L,cellIn 5 (some (.cells false s (Qs d p e q S L)))=some L:=fun _ _ _ _ _ _=>rfl
 have bq:Q5 qd 36=some (.cells false (J6 qd 36) (Qg noHead (.slice none 0 0))):=al_Arc
 generalize J6 qd 36=s3 at bq
 have ce:∀(s:Nat)(h:Header) a n c,Js 8 0 (some (.cells false s (Qg h (.slice a n c))))=some (.agg (Qg h (.slice a n c)).toArray):=fun _ _ _ _ _=>rfl
 have cd:∀(s:Nat)(h:Header) V,Js 7 0 (some (.cells false s (Qg h V)))=some (.agg h.cells.toArray):=fun _ _ _=>rfl
 have k7:∀(s:Nat)(h:Header) V,cellIn 7 (some (.cells false s (Qg h V)))=some V:=fun _ _ _=>rfl
 have ch:∀(h:Header) V,(Value.agg (Qg h V).toArray).cells.toList=Qg h V:=fun _ _=>rfl
 have cW:∀(M0:Mem)(b:Nat)(x y:Header) V a n c,Ji 8 M0 b 0 (Qg y (.slice a n c)) (some (.cells false s3 (Qg x V)))=some (M0.set b (some (.cells false s3 (Qg y (.slice a n c))))):=fun _ _ _ _ _ _ _ _=>rfl
 have nw:=Vi text
 obtain⟨M1,bV⟩:∃M1,M1=M.push (.cells false 1 (encS text)):=⟨_,rfl⟩
 have cc:More M M1:=by rw[bV];exact More.push _ _
 have rd:StrsRd M1 (.slice (some ⟨M.size,0,none⟩) 1 1) [text]:=⟨_,_,rfl,Nat.le_refl _,(fun e=>by cases e),fun i x hx=>by
  obtain rfl:i=0:=by
   cases i with
   |zero=>rfl
   |succ i=>cases hx
  cases hx
  exact⟨M.size,0,false,_,rfl,by rw[bV,Mem.get_push_new],rfl⟩⟩
 refine WM Tryz.func3 Tryz.results3 Tryz.ntmps3 fun _=>?_
 refine J0 (R0 ?_)
 refine J0 (R1 @nw ?_)
 rw[←bV]
 refine⟨by kernel_rfl,_,built_spec 40 (by decide) (by decide) sec hsec [text] (by simp) (by intro t ht;simp at ht;subst ht;exact htext) M1 _ rd,?_⟩
 rintro _ M2 ⟨H,p,q,g,P0,VL,LA,Mk,rfl,aZ,bT,bl,o1,o2,eO,zH,zp,zq,zg,zP,z2⟩
 rw[←hS]at aZ bT
 rw[aN]at bT
 obtain⟨x,rfl,hx⟩:∃x,LA=[x]∧x.1=A:=by
  match LA,bT with
  | [x],h=>exact⟨x,rfl,by simpa using h⟩
 obtain⟨I,xv⟩:=x
 obtain rfl:I=A:=hx
 rcases bl.1 with⟨h0,_⟩|⟨_,gA,eU,rfl,bR⟩
 ·cases h0
 have cn:=bl.2 _ (qr.2 rfl)
 simp only at cn
 rcases cn with⟨h0,_⟩|⟨_,gB,fb,rfl,cA⟩
 ·rw[h0]at bk;simp at bk
 rw[←hn]at bR
 have lA:=Mem.get_lt bR
 have lB:=Mem.get_lt cA
 have dV:M2.get gA=some (.cells false 8 (Qg I.head (.slice (some ⟨gB,0,none⟩) n n))):=by
  rw[o2 _ _ bR]
  simp only[List.flatMap_cons,List.flatMap_nil,List.append_nil]
  rfl
 have dL:=o2 _ _ cA
 obtain⟨sH,e0,Q0,hH,_⟩:=aZ.row
 have aa:=aZ.dep
 rw[←aD]at aa
 have b7:=aZ.ne
 obtain⟨_,_,_,gP,_⟩:=aa.row
 obtain⟨_,gp⟩:=aa.dsk.row
 have lP:=Mem.get_lt gP
 have lp:=Mem.get_lt gp
 have lq:=Mem.get_lt aa.dsk.kv
 have lg:=Mem.get_lt aa.dsk.old
 have fe:=cc.size
 have qn:(((1:Nat):Int) !=1)=false:=rfl
 have z0:(0:Int)≤0:=by omega
 have z1:(0:Int)<((1:Nat):Int):=by omega
 have dn:(0:Int)<1:=by omega
 have dz:(0:Int).toNat=0:=rfl
 refine S1 @ap ?_
 refine J0 (J0 (R5 @hp_eql @hH @j5 @qq.{0} @qn ?_))
 refine CF (J3 ?_)
 refine S0 ?_
 obtain⟨a8,bv⟩:∃b,b=M2.size:=⟨_,rfl⟩
 obtain⟨M3,bh⟩:∃M3,M3=(M2.push (.cells false s3 (Qg noHead (.slice none 0 0)))).set M2.size (some (.cells false s3 (Qg I.head (.slice (some ⟨gB,0,none⟩) n n)))):=⟨_,rfl⟩
 refine J0 (J1 ?_)
 simp only[zZ,reduceIte,yQ,yW,yX,yZ,yJ,yK,yV,zDk,Jc,Jb,Ja,J9,XO,hH,j5,qq,z0,z1,dn,dz,and_self,Nat.zero_mul,dV,ce,bq,Mem.get_push_new,ch,cW]
 rw[←bh,←bv]
 have z3:M3.size=M2.size+1:=by rw[bh,Mem.size_set,Mem.size_push]
 have bA:M3.get a8=some (.cells false s3 (Qg I.head (.slice (some ⟨gB,0,none⟩) n n))):=by rw[bh,bv];exact Mem.get_set_same (Mem.get_push_new _ _) _
 have bc:∀b x,M2.get b=some x→M3.get b=some x:=fun b x hx=>by
  have:=Mem.get_lt hx
  rw[bh,Mem.get_set_ne (by omega),Mem.get_push_old this];exact hx
 have eB:=lP
 have b5:=bc _ _ hH
 have cg:=bc _ _ dL
 have bU:=aa.same bc
 have aC:Q5 qd 43=some (.cells false (J6 qd 43) (setCells [])):=al_Set
 generalize J6 qd 43=s5 at aC
 have ao:∀l,Js 5 0 (some (.cells false s5 (setCells l)))=some (QG l):=fun _=>rfl
 have aT:∀l,(QG l).cells.toList=setCells l:=fun _=>rfl
 have aW:∀(M0:Mem)(b:Nat)(x y:List Bool),Ji 5 M0 b 0 (setCells y) (some (.cells false s5 (setCells x)))=some (M0.set b (some (.cells false s5 (setCells y)))):=fun _ _ _ _=>rfl
 have q7:((7:Int) !=0)=true:=rfl
 have ae:∀(M0:Mem)(l:List Bool),∃M1,M1=(M0.push (.cells false s5 (setCells []))).set M0.size (some (.cells false s5 (setCells l)))∧M1.get M0.size=some (.cells false s5 (setCells l))∧More M0 M1:=fun M0 l=>
  ⟨_,rfl,Mem.get_set_same (Mem.get_push_new _ _) _,fun b x hx=>by
   have:=Mem.get_lt hx
   rw[Mem.get_set_ne (by omega),Mem.get_push_old this];exact hx,by rw[Mem.size_set,Mem.size_push];omega⟩
 refine J0 (J0 (D5 6 @ap @b5 @j1 @bA @cd ?_))
 refine⟨by kernel_rfl,_,begin_spec P0 p q g (JU 40) (Dp0 key 1 0) I.head M3 bU ca (by have:=(hist_new 40 (by decide) (by decide) I fun _=>True).1.n;omega),?_⟩
 rintro _ M4 ⟨rfl,an,cj,eV⟩
 have bF:I.blocks.length≤6:=by omega
 obtain⟨dv,dx,cS,dK,df⟩:=hist_new 40 (by decide) (by decide) I fun _=>True
 have bJ:=(sess_begin (ep:=1) (st:=0) a6 bF dv dx dK df cS.1).resolve_right fun h=>h.1 cS
 generalize Dep.begin (JU 40) (Dp0 key 1 0) I.head=X4 at an bJ
 obtain⟨d4,D4,e4⟩:=X4
 simp only at an bJ
 obtain⟨rfl,rfl,bn,cK,eh⟩:=bJ
 refine S1 @q0 ?_
 refine CF (J3 ?_)
 refine S0 ?_
 have dS:=cj H _ b7 b5
 have fl:Xp I=qi n false:=by
  unfold Xp
  rw[←a6.len,hn,qf]
 rw[fl]at an bn
 refine J0 (R3 @ap @dS @j0 ?_)
 refine⟨by kernel_rfl,_,fuse_spec M4 p q g d4 an.dsk _ (fuse31_le fu),?_⟩
 rintro _ M5 ⟨rfl,bS,co,eD⟩
 obtain⟨d5,aw⟩:∃x,x=d4.setFuse (bits .and .i64 fu 31):=⟨_,rfl⟩
 have bS:DskAt M5 p q g d5:=by rw[aw];exact bS
 have cT:DepAt M5 P0 p q g d5 (Xm key I 1 0 (qi n false)):=an.disk bS (by rw[aw,fuse_old]) (fun b x hb hx=>co b x (by simp at hb ⊢;exact hb.1) hx)
 have cF:Sess I 1 d5 (qi n false) (qi n false):=by rw[aw];exact bn.fused (fuse31_le fu)
 have cw:d5.dead=false:=by rw[aw,fuse_dead];exact cK
 have o5:∀b x,b∉ [P0,p,q,g]→M3.get b=some x→M5.get b=some x:=fun b x hb hx=>co b x (by simp at hb ⊢;omega) (cj b x hb hx)
 obtain⟨aO,cO,rfl⟩:=rO.len
 have di:∀b x,M.get b=some x→M3.get b=some x:=fun b x hx=>bc b x (o2 b x (o1 b x (cc.get b x hx)))
 have dl:0<O.length→∃b ro,aO=some ⟨b,0,none⟩∧M.get b=some (.cells ro 1 (O.flatMap encN))∧b<M.size:=fun h0=>by
  obtain⟨b,ro,h1,h2⟩:=rO.at h0
  exact⟨b,ro,h1,h2,Mem.get_lt h2⟩
 have cR:((qi n false).length:Int)=I.head.n:=by rw[qt,hn];exact a6.len
 refine S0 ?_
 refine J0 (R0 ?_)
 refine QJ (fun f M'=>∃(V:Value)(L:List Int)(Gp G:List Bool)(d:Dsk)(D:Dep),f=[(4,.int .i64 bt),(11,.pointer (some ⟨H,0,none⟩)),(12,.pointer (some ⟨a8,0,none⟩)),(13,V)]∧
  Um M3.size M' V L∧L.length≤20∧Stg key I Gp G d D∧Don I.blocks.length Gp G L∧DepAt M' P0 p q g d D∧M3.size≤M'.size∧(∀b x,b∉ [P0,p,q,g]→M3.get b=some x→M'.get b=some x)) ?_ ?_
 ·refine J0 (R0 ?_)
  refine J7 (Jr (fun j f M'=>∃(i:Nat)(V:Value)(L:List Int)(Gp G:List Bool)(d:Dsk)(ep st:Int),j=20-i∧f=[(2,.slice aO O.length cO),(4,.int .i64 bt),(11,.pointer (some ⟨H,0,none⟩)),(12,.pointer (some ⟨a8,0,none⟩)),(13,V),(14,.int .i64 (i:Nat))]∧i≤20∧
   Um M3.size M' V L∧L.length≤i∧(Sess I 1 d Gp G∧d.dead=false∧0≤st∧st≤(i:Int)∧(Gp.length:Int)=I.head.n)∧Don I.blocks.length Gp G L∧DepAt M' P0 p q g d (Xm key I ep st G)∧M3.size≤M'.size∧(∀b x,b∉ [P0,p,q,g]→M3.get b=some x→M'.get b=some x)) 20 ?_ ?_)
  ·refine JK [2,4,11,12,13,14] ?_
   exact⟨M5,tR _,0,_,[],qi n false,qi n false,d5,1,0,rfl,rfl,by omega,OwnL.nil _ _,by simp,⟨cF,cw,by omega,by omega,cR⟩,by rw[←hn];exact Don.nil n,cT,by omega,o5⟩
  ·rintro j f M6 ⟨i,V6,L6,Gp,G,d6,ep,st,rfl,rfl,ea,Y,dO,⟨ax,bu,aA,cD,aY⟩,E,a7,bE,o6⟩
   have aj:Stg key I Gp G d6 (Xm key I ep st G):=sess_stg (j:=0) ax aA (by omega) aY
   cases b1:decide ((i:Int)<(O.length:Int))
   case false=>
    refine J0 (J0 (R1 @b1 ?_))
    refine CF (Jn ?_)
    refine S0 ?_
    refine JK [4,11,12,13] ?_
    exact⟨M6,tR _,V6,L6,Gp,G,d6,_,rfl,Y,by omega,aj,E,a7,bE,o6⟩
   cases b2:decide ((i:Int)<20)
   case false=>
    refine J0 (J0 (R2 @b1 @b2 ?_))
    refine CF (Jn ?_)
    refine S0 ?_
    refine JK [4,11,12,13] ?_
    exact⟨M6,tR _,V6,L6,Gp,G,d6,_,rfl,Y,by omega,aj,E,a7,bE,o6⟩
   refine J0 (J0 (R2 @b1 @b2 ?_))
   refine CT (J3 ?_)
   have p1:=of_decide_eq_true b1
   have p2:=of_decide_eq_true b2
   obtain⟨bO,eW,rfl,dP,eN⟩:=dl (by omega)
   obtain⟨od,ck⟩:∃x,O[i]?=some x:=⟨_,qe (by omega)⟩
   have dM:(O.flatMap encN)[i]?=some (.int .i64 od):=UZ (f:=Value.int .i64) ck false 1
   have i0:(0:Int)≤(i:Int):=by omega
   have dg:=o6 bO _ (by simp;omega) (di _ _ dP)
   have bj:=o6 a8 _ (by simp;omega) bA
   have bL:=o6 gB _ (by simp;omega) cg
   have aP:=o6 H _ b7 b5
   have w2:IntKind.i64.wrap ((i:Int)+1)=((i+1:Nat):Int):=by rw[Xn (by omega) (by omega)];omega
   have nz:(((n:Nat):Int)=0)=False:=eq_false (by omega)
   obtain⟨k,hk,v1,v2,v3,v4⟩:=pick_mod od n (by omega) (by omega) (hOw od (qj ck))
   obtain⟨tb,aF⟩:∃x,I.blocks[k]?=some x:=⟨_,qe (by omega)⟩
   have eM:tb.length=224:=a6.size tb (qj aF)
   have bK:(0:Int)≤(k:Int):=by omega
   have kn:(k:Int)<(n:Int):=by omega
   have dh:(I.blocks.flatMap encS)[k]?=some (.string (str tb)):=UZ (f:=fun s=>Value.string (str s)) aF false 1
   refine QJ (fun f M'=>∃(V:Value)(L:List Int)(Gp G:List Bool)(d:Dsk)(ep st:Int),f=[(2,.slice (some ⟨bO,0,none⟩) O.length cO),(4,.int .i64 bt),(11,.pointer (some ⟨H,0,none⟩)),(12,.pointer (some ⟨a8,0,none⟩)),(13,V),(14,.int .i64 (i:Nat))]∧
    Um M3.size M' V L∧L.length≤i+1∧(Sess I 1 d Gp G∧d.dead=false∧0≤st∧st≤((i+1:Nat):Int)∧(Gp.length:Int)=I.head.n)∧Don I.blocks.length Gp G L∧DepAt M' P0 p q g d (Xm key I ep st G)∧M3.size≤M'.size∧(∀b x,b∉ [P0,p,q,g]→M3.get b=some x→M'.get b=some x)) ?_ ?_
   ·refine J7 ?_
    refine J0 (QF hmix 15 (by kernel_rfl) (by kernel_rfl) ?_)
    simp only[zZ,reduceIte,yQ,yW,yX,yZ,yJ,yK,yV,zDk,Jc,Jb,Ja,J9,XO,i0,p1,and_self,dg,qf,dM,bj,k7,nz,v1,v2,v3,v4]
    refine J0 (R3 @ap @aP @j1 ?_)
    have gs:=got_spec P0 p q g d6 (some (Xm key I ep st G)) _ 1 M6 ⟨rfl,a7⟩
    rw[show gotOr (some (Xm key I ep st G)) 1=(G,0) by rw[←aQ];exact d1_got key I ep st G]at gs
    refine⟨by kernel_rfl,_,gs,?_⟩
    rintro _ M7 ⟨rfl,bi⟩
    obtain⟨M8,bW,dA,bz⟩:=ae M7 G
    refine S4 @aC @Mem.get_push_new @aT @aW ?_
    rw[←bW]
    have U:=bi.trans bz
    have az:=a7.same U.get
    have ab:=Y.same fun b x _ hx=>U.get b x hx
    have o8:∀b x,b∉ [P0,p,q,g]→M3.get b=some x→M8.get b=some x:=fun b x hb hx=>U.get b x (o6 b x hb hx)
    have aX:=U.get _ _ aP
    have ba:=U.get _ _ bj
    have bg:=U.get _ _ bL
    have z8:=U.size
    have aq:G.length≤256:=by rw[E.len];omega
    refine J0 (J0 (R2 @dA @ao ?_))
    refine K0 (has_at G aq (k:Nat) M8) ?_
    rw[has_nat]
    refine CC (G.getD k false) (fun hb=>Jn ?_) (fun hb=>J3 ?_)
    ·refine S0 ?_
     refine JK [2,4,11,12,13,14] ?_
     exact⟨M8,tR _,V6,L6,Gp,G,d6,ep,st,rfl,ab,by omega,⟨ax,bu,aA,by omega,aY⟩,E,az,by omega,o8⟩
    have bf:=stg_stage (ep:=ep) a6 bF (j:=(i:Int)) ax bu aA cD (by omega) E aF hb aY
    rw[aQ]at bf
    refine S0 ?_
    refine J0 (J0 (QF hmix 10 (by kernel_rfl) (by kernel_rfl) ?_))
    simp only[zZ,reduceIte,yQ,yW,yX,yZ,yJ,yK,yV,zDk,Jc,Jb,Ja,J9,XO,aX,j1,ap,ba,k7,bK,kn,and_self,bg,qf,dh]
    refine⟨by kernel_rfl,_,stage_spec P0 p q g d6 (Xm key I ep st G) 1 (k:Nat) tb (by omega) (show-1000000≤st∧st≤1000000000 by omega) M8 az,?_⟩
    rintro _ M9 ⟨rfl,ak,aJ,dR⟩
    generalize Dep.stage d6 (Xm key I ep st G) 1 (k:Nat) tb=X9 at ak bf
    obtain⟨d9,D9,e9⟩:=X9
    simp only at ak bf
    have be:∀b,Qp V6=some b→b∉ [P0,p,q,g]:=fun b hb=>by
     have:=(Y.live hb).1
     simp;omega
    have ar:=ab.same fun b x hb hx=>aJ b x (be b hb) hx
    have o9:∀b x,b∉ [P0,p,q,g]→M3.get b=some x→M9.get b=some x:=fun b x hb hx=>aJ b x hb (o8 b x hb hx)
    rcases bf with⟨rfl,rfl,c8,cb,bN⟩|⟨rfl,cH⟩
    ·refine S1 @q0 ?_
     refine CF (J3 ?_)
     refine S0 ?_
     obtain⟨aK,dT,ha,e3,b8,ei,ah⟩:=napp ar (by omega) (by omega) (k:Int)
     have ad:DepAt aK P0 p q g d9 (Xm key I ep (st+1) (G.set k true)):=by
      rcases ar with⟨_,rfl⟩|⟨_,gV,f1,rfl,aU⟩
      ·exact ak.same fun b x hx=>ah b x (fun h=>by cases h) hx
      ·exact ak.nums (gW:=gV) aU (fun b x hb hx=>ah b x (fun h=>by cases h;simp at hb) hx) (be gV rfl)
     refine R2 @new_num1 @ha ?_
     refine JK [2,4,11,12,13,14] ?_
     exact⟨aK,tR _,dT,L6++[(k:Int)],G,G.set k true,d9,ep,st+1,rfl,b8,by rw[qo];simp;omega,⟨c8,cb,by omega,by omega,ax.len⟩,bN,ad,by omega,fun b x hb hx=>ah b x (fun h=>by
      have h1:=(Y.live h).1
      have h2:=Mem.get_lt hx
      omega) (o9 b x hb hx)⟩
    ·refine S1 @q7 ?_
     refine CT (Jn ?_)
     refine S0 ?_
     refine JK [4,11,12,13] ?_
     exact⟨M9,tR _,V6,L6,Gp,G,d9,D9,rfl,ar,by omega,cH,E,ak,by omega,o9⟩
   ·rintro f M7 ⟨V7,L7,de,G7,d7,dq,dm,rfl,bC,dC,ci,bx,cp,dD,o7⟩
    refine R1 @w2 ?_
    refine JK [2,4,11,12,13,14] ?_
    exact⟨M7,tR _,20-(i+1),⟨i+1,V7,L7,de,G7,d7,dq,dm,rfl,rfl,by omega,bC,dC,ci,bx,cp,dD,o7⟩,by omega⟩
 ·rintro f M6 ⟨V6,L6,Gp,G,d6,D6,rfl,Y,dO,aj,E,a7,bE,o6⟩
  have aP:=o6 H _ b7 b5
  have bj:=o6 a8 _ (by simp;omega) bA
  have bL:=o6 gB _ (by simp;omega) cg
  obtain⟨ep,st,dU,aA,dE⟩:=aj.dep
  have aq:G.length≤256:=by rw[E.len];omega
  refine J0 (R3 @ap @aP @j1 ?_)
  have gs:=got_spec P0 p q g d6 (some D6) _ 1 M6 ⟨rfl,a7⟩
  rw[show gotOr (some D6) 1=(G,0) by rw[dU,←aQ];exact d1_got key I ep st G]at gs
  refine⟨by kernel_rfl,_,gs,?_⟩
  rintro _ M7 ⟨rfl,bi⟩
  obtain⟨M8,bW,bD,bz⟩:=ae M7 G
  obtain⟨dF,bp⟩:∃b,b=M7.size:=⟨_,rfl⟩
  refine S4 @aC @Mem.get_push_new @aT @aW ?_
  rw[←bW,←bp]
  rw[←bp]at bD
  have U:=bi.trans bz
  have az:=a7.same U.get
  have aX:=U.get _ _ aP
  have ba:=U.get _ _ bj
  have bg:=U.get _ _ bL
  have z7:=bi.size
  have ab:=Y.same fun b x _ hx=>U.get b x hx
  refine J0 (R3 @ap @aX @j0 ?_)
  refine⟨by kernel_rfl,_,crash_spec M8 p q g d6 az.dsk bt,?_⟩
  rintro _ M9 ⟨rfl,dQ,aJ,dR⟩
  have dr:=aJ H _ (by simp at b7 ⊢;omega) aX
  obtain⟨cq,ai,X,dG,hX,ac,bQ,em⟩:=staged_open a6 bF aj bt
  have os:=open_spec M9 p q g (d6.crash bt) dQ (str S) (by rw[str_size];omega)
  rw[show(str S).data.toList=S from rfl,←aD,dG]at os
  refine S0 ?_
  refine J0 (CW_drawnG hmix [(8,9),(13,14)] (by kernel_rfl) ?_)
  simp only[zZ,reduceIte,yQ,yW,yX,yZ,yJ,yK,yV,zDk,Jc,Jb,Ja,J9,XO,Zi,JN,Qj,QM,isVal,sGuardedV,JQ,Q6,yY,qp,ap,dr,j0,j4]
  refine⟨by kernel_rfl,_,os,?_⟩
  rintro _ aK ⟨v,rfl,bH,ah,ej⟩
  obtain⟨P',rfl,eq,ad⟩:=bH
  simp only[zZ,reduceIte,yQ,yW,yX,yZ,yJ,yK,yV,zDk,Jc,Jb,Ja,J9,XO,Zi,JN,Qj,QM,isVal,sGuardedV,JQ,Q6,yY,qp]
  refine J0 (J0 (R2 @q0 @pp_eql ?_))
  refine CF (J3 ?_)
  refine S0 ?_
  have f2:=Mem.get_lt aX
  have f9:=Mem.get_lt ba
  have er:=Mem.get_lt bg
  have eX:=Mem.get_lt bD
  have be:∀b,Qp V6=some b→b∉ [P0,p,q,g]:=fun b hb=>by
   have:=(Y.live hb).1
   simp;omega
  have ay:∀b x,b∉ [p,q,g]→M8.get b=some x→aK.get b=some x:=fun b x hb hx=>ah b x (by simp at hb ⊢;omega) (aJ b x (by simp at hb ⊢;omega) hx)
  have av:X.length≤256:=by
   have h1:=ac.len
   have h2:=a6.len
   omega
  have fi:X.length=I.blocks.length:=by
   have h1:=ac.len
   have h2:=a6.len
   omega
  refine J0 (R0 ?_)
  have cv:=got_spec P' p q g cq (some (Xm key I ai 0 X)) _ 1 aK ⟨rfl,ad⟩
  rw[show gotOr (some (Xm key I ai 0 X)) 1=(X,0) by rw[←aQ];exact d1_got key I ai 0 X]at cv
  refine⟨by kernel_rfl,_,cv,?_⟩
  rintro _ cu ⟨rfl,c9⟩
  obtain⟨ag,cY,aS,d0⟩:=ae cu X
  obtain⟨cm,br⟩:∃b,b=cu.size:=⟨_,rfl⟩
  refine S4 @aC @Mem.get_push_new @aT @aW ?_
  rw[←cY,←br]
  rw[←br]at aS
  have Z:=c9.trans d0
  have bB:=ad.same Z.get
  have aH:=Z.get _ _ (ay dF _ (by simp;omega) bD)
  have cL:=Z.get _ _ (ay a8 _ (by simp;omega) ba)
  have cE:=Z.get _ _ (ay gB _ (by simp;omega) bg)
  have aB:=ab.same fun b x hb hx=>Z.get b x (ay b x (fun h=>be b hb (by simp at h ⊢;omega)) hx)
  have dt:∀k,X[k]?=some true→G[k]?=some true:=fun k hk=>by
   rcases hX with rfl|rfl
   ·exact E.le k hk
   ·exact hk
  have cz:∀k,Gp[k]?=some true→X[k]?=some true:=fun k hk=>by
   rcases hX with rfl|rfl
   ·exact hk
   ·exact E.le k hk
  have wt:=within_at X.length G.length X G ag
  rw[within_of dt,←setV_raw,←setV_raw]at wt
  have ct:=count_at G aq ag
  rw[E.cnt]at ct
  obtain⟨aV,cV,rfl⟩:=aB.len
  have qc:(((L6.length:Nat):Int) !=(L6.length:Int))=false:=by simp
  refine J0 (J0 (R4 @q0 @aS @ao @aH ?_))
  refine K4 @q0 @aS @ao @aH (wt) ?_
  refine K2 @q0 @qc (ct) ?_
  refine CF (J3 ?_)
  refine S0 ?_
  have wl:IntKind.i64.wrap ((L6.length:Int)-1)=(L6.length:Int)-1:=Xn (by omega) (by omega)
  refine QJ (fun f M'=>f=[(12,.pointer (some ⟨a8,0,none⟩)),(20,.pointer (some ⟨P',0,none⟩)),(22,.pointer (some ⟨cm,0,none⟩))]∧M'=ag) ?_ ?_
  ·refine J0 (R0 ?_)
   refine J7 (Jr (fun j f M'=>∃i:Nat,j=20-i∧f=[(12,.pointer (some ⟨a8,0,none⟩)),(13,.slice aV L6.length cV),(20,.pointer (some ⟨P',0,none⟩)),(22,.pointer (some ⟨cm,0,none⟩)),(24,.int .i64 (i:Nat))]∧i≤20∧M'=ag) 20 ?_ ?_)
   ·refine JK [12,13,20,22,24] ?_
    exact⟨ag,tR _,0,rfl,rfl,by omega,rfl⟩
   ·rintro j f bd ⟨i,rfl,rfl,hi,e9⟩
    replace e9:=e9.symm
    subst e9
    refine J0 (J0 (R1 @wl ?_))
    refine(CC (decide ((i:Int)<(L6.length:Int)-1)) (fun hq=>J3 ?_) (fun hq=>Jn ?_))
    ·have hq:=of_decide_eq_true hq
     have w2:IntKind.i64.wrap ((i:Int)+1)=((i+1:Nat):Int):=by rw[Xn (by omega) (by omega)];omega
     have i0:(0:Int)≤(i:Int):=by omega
     have p1:(i:Int)<(L6.length:Int):=by omega
     obtain⟨x,hx⟩:∃x,L6[i]?=some x:=⟨_,qe (by omega)⟩
     obtain⟨gV,rfl,_,aU⟩:=aB.at hx
     obtain⟨k,rfl,hk⟩:=E.but i x (by omega) hx
     have b9:(L6.flatMap encN)[i]?=some (.int .i64 (k:Int)):=UZ (f:=Value.int .i64) hx false 1
     have dj:hasV X (k:Int)=true:=by rw[has_nat,qk,cz k hk];rfl
     refine S0 ?_
     refine J0 (J7 (J0 (D8 5 @aS @ao @i0 @p1 @and_self @aU @qf @b9 ?_)))
     refine K1 @dj (has_at X av (k:Nat) ag) ?_
     refine CF (J3 ?_)
     refine S0 ?_
     refine R1 @w2 ?_
     refine JK [12,13,20,22,24] ?_
     exact⟨ag,tR _,20-(i+1),⟨i+1,rfl,rfl,by omega,rfl⟩,by omega⟩
    ·refine S0 ?_
     refine JK [12,20,22] ?_
     exact⟨ag,tR _,rfl⟩
  ·rintro f bd ⟨rfl,e9⟩
   replace e9:=e9.symm
   subst e9
   refine J0 (R2 @aS @ao ?_)
   refine⟨by kernel_rfl,_,slist_spec X av ag,?_⟩
   rintro V2 bd ⟨L2,aI,dW,aG,du⟩
   obtain⟨a2,c2,rfl⟩:=aI.len
   have cy:=aG.get _ _ cL
   have cr:=aG.get _ _ cE
   have bG:=bB.same aG.get
   refine S0 ?_
   refine QJ (fun f M'=>f=[]) ?_ ?_
   ·refine J0 (R0 ?_)
    refine J7 (Jr (fun j f M'=>∃i:Nat,j=L2.length-i∧f=[(12,.pointer (some ⟨a8,0,none⟩)),(20,.pointer (some ⟨P',0,none⟩)),(25,.slice a2 L2.length c2),(26,.int .i64 (i:Nat))]∧i≤L2.length∧More bd M') L2.length ?_ ?_)
    ·refine JK [12,20,25,26] ?_
     exact⟨bd,tR _,0,rfl,rfl,by omega,More.refl _⟩
    ·rintro j f bX ⟨i,rfl,rfl,hi,al⟩
     refine J0 (J0 (R0 ?_))
     refine(CC (decide ((i:Int)<(L2.length:Int))) (fun hq=>J3 ?_) (fun hq=>Jn ?_))
     ·have p1:=of_decide_eq_true hq
      have i0:(0:Int)≤(i:Int):=by omega
      obtain⟨x,hx⟩:∃x,L2[i]?=some x:=⟨_,qe (by omega)⟩
      obtain⟨gV,rfl,_,aU⟩:=aI.at hx
      obtain⟨k,rfl,hk⟩:=dW x (qj hx)
      have b9:(L2.flatMap encN)[i]?=some (.int .i64 (k:Int)):=UZ (f:=Value.int .i64) hx false 1
      have ca:=(qh.1 hk).1
      have w2:IntKind.i64.wrap ((i:Int)+1)=((i+1:Nat):Int):=by rw[Xn (by omega) (by omega)];omega
      obtain⟨tb,aF⟩:∃x,I.blocks[k]?=some x:=⟨_,qe (by omega)⟩
      have cB:(I.blocks.flatMap encS)[k]?=some (.string (str tb)):=UZ (f:=fun s=>Value.string (str s)) aF false 1
      have bK:(0:Int)≤(k:Int):=by omega
      have kn:(k:Int)<(n:Int):=by omega
      have bm:=al.get _ _ aU
      have bs:=dblock_spec P' p q g cq (Xm key I ai 0 X) 1 (k:Int) bX (bG.same al.get)
      have cU:=staged_block (ep:=ai) (st:=0) a6 ac bQ aF hk (by have:=ac.hist.n;omega)
      rw[aQ]at cU
      rw[cU]at bs
      refine S0 ?_
      refine J0 (J7 (J0 (R6 @i0 @p1 @and_self @bm @qf @b9 ?_)))
      refine⟨by kernel_rfl,_,bs,?_⟩
      rintro _ cf ⟨rfl,aE⟩
      have cl:=aE.get _ _ bm
      have cN:=aE.get _ _ (al.get _ _ cy)
      have cP:=aE.get _ _ (al.get _ _ cr)
      have qs:beqB (str tb) (str tb)=true:=by rw[beqB_dec];simp
      refine S0 ?_
      refine J0 (QF hmix 12 (by kernel_rfl) (by kernel_rfl) ?_)
      simp only[zZ,reduceIte,yQ,yW,yX,yZ,yJ,yK,yV,zDk,Jc,Jb,Ja,J9,XO,q0,cN,k7,i0,p1,and_self,cl,qf,b9,bK,kn,cP,cB,qs,Bool.not_true]
      refine CF (J3 ?_)
      refine S0 ?_
      refine R1 @w2 ?_
      refine JK [12,20,25,26] ?_
      exact⟨cf,tR _,L2.length-(i+1),⟨i+1,rfl,rfl,by omega,al.trans aE⟩,by omega⟩
     ·refine S0 ?_
      refine JK [] ?_
      exact⟨bX,tR _⟩
   ·rintro f bX rfl
    refine J0 (R0 ?_)
    refine⟨by kernel_rfl,_,awake25_spec _,?_⟩
    rintro _ cf ⟨rfl,_⟩
    refine S0 ?_
    refine T0 ?_
    first|exact⟨_,tR _,rfl⟩|exact⟨_,tR _⟩|exact⟨_,tR _,rfl,rfl⟩
theorem arg_nums{P:Program}{m:Mem}{B:Nat}{t e:TypeId}{v:Value}(hu:P.underlying t=some (.slice e))(he:P.underlying e=some (.int .i64))(hn:P.cellsOf e=1)(h:ArgOf P m B t v):
 ∃xs:List Int,Rd m 1 v xs.length (xs.flatMap fun n=>[.int .i64 n])∧(∀x∈xs, -9223372036854775808≤x∧x≤9223372036854775807)∧xs.length≤B:=by
 obtain⟨v',xs,E,O,h2,I⟩:=ARep.list (fun n:Int=>[.int .i64 n]) (fun n=>(Lit.int .i64 n).wf=true) hu hn (fun cs hc=>by
  obtain⟨n,rfl,hw⟩:=hc.inv_int he
  exact⟨n,rfl,hw⟩) (arg_list hu h)
 cases E
 exact⟨xs,O,fun x hx=>by simpa[Lit.wf,IntKind.min,IntKind.max,IntKind.signed,IntKind.bits]using I x hx,h2.1⟩
end Go.Proofs.YthohbneadomgdaaGreatDoor
