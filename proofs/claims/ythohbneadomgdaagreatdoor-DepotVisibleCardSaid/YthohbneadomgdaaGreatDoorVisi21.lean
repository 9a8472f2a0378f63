import Derived.Test.YthohbneadomgdaaGreatDoorVisi20
import Derived.Test.YthohbneadomgdaaGreatDoorVisi10
import Derived.Test.YthohbneadomgdaaGreatDoorVisi09
import Derived.Test.YthohbneadomgdaaGreatDoorVisi11
import Derived.Test.YthohbneadomgdaaGreatDoorVisi14
import Derived.Test.YthohbneadomgdaaGreatDoorVisi15
import Derived.Test.YthohbneadomgdaaGreatDoorVisi19
set_option linter.all false
set_option maxRecDepth 100000
set_option maxHeartbeats 16000000
open Nat renaming reduceLT→yQ,reduceEqDiff→yK,reduceAdd→yV,reduceSub→yY,reduceMul→yU
open Int renaming reduceToNat→yW,reduceLE→yX,reduceEq→yZ,reduceLT→yJ
open Go.Proofs.Tryz renaming prog→qc
open List renaming getElem?_eq_getElem→qd,mem_of_getElem?→qh,replicate→qi,length_filterMap_le→qj,length_singleton→qk,getElem?_eq_none→qm,length_map→qo,append_nil→qq
open Nat renaming sub_zero→qe,le_refl→qp
open Int renaming toNat_natCast→qf
namespace Go.Proofs.YthohbneadomgdaaGreatDoor
open Go.RowKit Abs Stab
theorem may_small{L:List Ext}(h:∀x∈L,JE x=true):SmallE L:=fun x hx=>by
 obtain⟨a,b,c⟩:=Ki (h x hx)
 have:=Vq a
 exact⟨by omega,by omega⟩
theorem vmax(a b:Int):vMin false [.int .i64 a,.int .i64 b]=some (.int .i64 (max a b)):=by
 simp only[vMin,evMin,aMin2]
 by_cases h:a<b
 ·simp[h,Int.max_def];omega
 ·simp[h,Int.max_def];omega
def roomU(o:Option Int):Value:=match o with|none=>.tuple #[.int .i64 0,.bool false]|some a=>.tuple #[.int .i64 a,.bool true]
theorem room_spec(lo hi n:Int)(K:Nat)(M:Mem)(V:Value)(L:List Ext)(h:Vy K M V L)(hl:L.length≤12)(hm:∀x∈L,JE x=true)(hn:1≤n)(hn2:n≤1000)(h0:0≤lo)(h1:lo≤hi)(h2:hi≤2000):
 Abs.Spec qc 31 [.int .i64 lo,.int .i64 hi,.int .i64 n,V] M fun u M'=>u=roomU (roomV lo hi n L)∧More M M':=by
 refine K5 Tryz.func31 Tryz.results31 Tryz.ntmps31 fun hc hx k=>?_
 have Y:Qa qc 85=some (.cells false (J6 qc 85) noExt.cells):=al_Ext
 generalize J6 qc 85=s2 at Y
 have ac:∀x:Ext,(Value.agg x.cells.toArray).cells.toList=x.cells:=fun _=>rfl
 have aa:∀(M0:Mem)(b:Nat)(x y:Ext),Ji 8 M0 b 0 y.cells (some (.cells false s2 x.cells))=some (M0.set b (some (.cells false s2 y.cells))):=fun _ _ _ _=>rfl
 have k2:∀x:Ext,cellIn 2 (some (.cells false s2 x.cells))=some (.int .i64 x.head.n):=fun _=>rfl
 have k7:∀x:Ext,cellIn 7 (some (.cells false s2 x.cells))=some (.int .i64 x.base):=fun _=>rfl
 have q1:decide (n<1)=false:=decide_eq_false (by omega)
 have q2:decide (lo<0)=false:=decide_eq_false (by omega)
 have q3:decide (hi<lo)=false:=decide_eq_false (by omega)
 refine J0 (R0 ?_)
 refine J0 (J0 (R3 @q1 @q2 @q3 ?_))
 refine CF (J3 ?_)
 simp only[zZ,reduceIte,yQ,yW,yX,yZ,yJ,yK,yV]
 refine J0 (R0 ?_)
 refine⟨by kernel_rfl,_,eclone_spec K M V L h (by omega),?_⟩
 rintro W M1 ⟨hW,am,aP⟩
 refine S0 ?_
 have so:=sorte_own M.size M1 W L hW hl (may_small hm)
 unfold cmpE at so
 refine J0 (R0 ?_)
 refine⟨by kernel_rfl,_,so,?_⟩
 rintro _ M2 ⟨rfl,⟨R,hR,a8⟩,a6,hs2⟩
 have af:More M M2:=⟨fun b y hb=>a6 b y (fun e=>by have:=(hW.live e).1;have:=Mem.get_lt hb;omega) (am b y (by simp) hb),by omega⟩
 have ap:∀x∈R,JE x=true:=fun x hx=>hm x ((hR.mem Vp x).1 hx)
 have aM:R.length≤12:=by rw[hR.len];exact hl
 obtain⟨a0,c0,hV⟩:=a8.len
 subst hV
 refine S0 ?_
 refine J0 (R0 ?_)
 refine QB (fun f M'=>f=[(0,.int .i64 lo),(1,.int .i64 hi),(2,.int .i64 n),(11,.int .i64 (Xj n lo R))]∧0≤Xj n lo R∧Xj n lo R≤3000∧More M M') ?_ ?_
 ·refine J0 (R0 ?_)
  refine J7 (Jr (fun j f M'=>∃(i:Nat)(a:Int),j=R.length-i∧f=[(0,.int .i64 lo),(1,.int .i64 hi),(2,.int .i64 n),(11,.int .i64 a),(30,.slice a0 R.length c0),(31,.int .i64 (R.length:Nat)),(32,.int .i64 (i:Nat))]∧i≤R.length∧Xj n a (R.drop i)=Xj n lo R∧0≤a∧a≤3000∧More M2 M') R.length ?_ ?_)
  ·refine JK [0,1,2,11,30,31,32] ?_
   exact⟨M2,tR _,0,lo,rfl,rfl,by omega,rfl,h0,by omega,More.refl _⟩
  ·rintro j f M' ⟨i,a,rfl,rfl,aE,E,al,aq,U⟩
   refine J0 (R0 ?_)
   refine J0 (CC (decide ((i:Int)<(R.length:Int))) (fun hq=>J3 ?_) (fun hq=>Jn ?_))
   ·have a7:=of_decide_eq_true hq
    obtain⟨x,hX⟩:∃x,R[i]?=some x:=⟨_,qd (by omega)⟩
    obtain⟨g,rfl,_,hg⟩:=a8.at hX
    have a2:R.drop i=x::R.drop (i+1):=by
     have ad:i<R.length:=by omega
     rw[qd ad]at hX
     cases hX
     exact List.drop_eq_getElem_cons ad
    rw[a2,Xj]at E
    obtain⟨ak,aO,aA⟩:=Ki (ap x (qh hX))
    have aI:=Vq ak
    have z0:(0:Int)≤(i:Int):=by omega
    have r1:=ext_row hX 8
    have gg:=U.get _ _ hg
    have ws:IntKind.i64.wrap (x.base-a)=x.base-a:=Xn (by omega) (by omega)
    have wa:IntKind.i64.wrap (x.base+x.head.n)=x.base+x.head.n:=Xn (by omega) (by omega)
    have w9:IntKind.i64.wrap ((i:Int)+1)=((i+1:Nat):Int):=by rw[Xn (by omega) (by omega)];omega
    obtain⟨M5,O⟩:∃M5,M5=(M'.push (.cells false s2 noExt.cells)).set M'.size (some (.cells false s2 x.cells)):=⟨_,rfl⟩
    obtain⟨an,Z⟩:∃b,b=M'.size:=⟨_,rfl⟩
    have ah:M5.get an=some (.cells false s2 x.cells):=by rw[O,Z];exact Mem.get_set_same (Mem.get_push_new _ _) _
    have ab:More M' M5:=⟨fun b x hb=>by
     have:=Mem.get_lt hb
     rw[O,Mem.get_set_ne (by omega),Mem.get_push_old this];exact hb,by rw[O,Mem.size_set,Mem.size_push];omega⟩
    simp only[zZ,reduceIte,yQ,yW,yX,yZ,yJ,yK,yV]
    refine J0 (J7 (J0 (J1 ?_)))
    simp only[zZ,reduceIte,yQ,yW,yX,yZ,yJ,yK,yV,zDk,Jc,Jb,J9,J8,Xx,z0,a7,and_self,qf,gg,r1,Y,Mem.get_push_new,ac,aa]
    rw[←O,←Z]
    refine J0 (J0 (R3 @ah @k7 @ws ?_))
    refine CC (decide (n≤x.base-a)) (fun hq=>Jn ?_) (fun hq=>J3 ?_)
    ·rw[if_pos (of_decide_eq_true hq)]at E
     refine JK [0,1,2,11] ?_
     exact⟨_,tR _,by rw[E],by omega,by omega,(af.trans U).trans ab⟩
    ·rw[if_neg (of_decide_eq_false hq)]at E
     simp only[zZ,reduceIte,yQ,yW,yX,yZ,yJ,yK,yV]
     refine R5 @ah @k7 @k2 @wa @vmax ?_
     refine R1 @w9 ?_
     refine JK [0,1,2,11,30,31,32] ?_
     exact⟨_,tR _,R.length-(i+1),⟨i+1,max a (x.base+x.head.n),rfl,rfl,by omega,E,by omega,by omega,U.trans ab⟩,by omega⟩
   ·have a7:=of_decide_eq_false hq
    rw[List.drop_of_length_le (by omega),Xj]at E
    refine JK [0,1,2,11] ?_
    exact⟨_,tR _,by rw[E],by omega,by omega,af.trans U⟩
 rintro _ M3 ⟨rfl,al,aq,ae⟩
 have I:=roomV_greedy lo hi n L R hn h0 h1 (fun x=>hR.mem Vp x) hR.rising
 have ws:IntKind.i64.wrap (hi-Xj n lo R)=hi-Xj n lo R:=Xn (by omega) (by omega)
 refine J0 (J0 (R1 @ws ?_))
 refine CC (decide (n>hi-Xj n lo R)) (fun hq=>J0 (J1 ?_)) (fun hq=>J3 ?_)
 ·rw[if_pos (of_decide_eq_true hq)]at I
  refine S0 ?_
  refine T0 ?_
  exact⟨_,tR _,by rw[I];rfl,ae⟩
 ·rw[if_neg (of_decide_eq_false hq)]at I
  simp only[zZ,reduceIte,yQ,yW,yX,yZ,yJ,yK,yV]
  refine J0 (R0 ?_)
  refine T0 ?_
  exact⟨_,tR _,by rw[I];rfl,ae⟩
end Go.Proofs.YthohbneadomgdaaGreatDoor
namespace Go.Proofs.YthohbneadomgdaaGreatDoor
open Go.RowKit Abs
def chainH:List Bool→Option Bool
 | []=>some true
 |b::r=>match some b with
  |some true=>chainH r
  |some false=>some false
  |none=>none
theorem chainH_eq:∀l:List Bool,chainH l=some (l.all id)
 | []=>rfl
 |true::r=>by simp[chainH,chainH_eq r]
 |false::r=>by simp[chainH]
def sameH(x y:Header):Bool:=[x.id==y.id,UW x.salt y.salt,x.n==y.n,x.bytes==y.bytes,x.raw==y.raw,UW x.root y.root,UW x.tag y.tag].all id
theorem sameH_iff(x y:Header):sameH x y=true↔x=y:=by
 obtain⟨a0,I,Z,E,a4,Y,a6⟩:=x
 obtain⟨b0,b1,O,b3,U,b5,b6⟩:=y
 unfold sameH
 simp only[List.all_cons,List.all_nil,id,Bool.and_true,Bool.and_eq_true,beq_iff_eq,decide_eq_true_eq,Header.mk.injEq,beqB_dec]
theorem sameH_self(x:Header):sameH x x=true:=(sameH_iff x x).2 rfl
theorem hdr_neq(cx:Bool)(x y:Header):aBin qc .neq 34 cx (.agg x.cells.toArray) (.agg y.cells.toArray)=some (.bool (!sameH x y)):=by
 obtain⟨a0,I,Z,E,a4,Y,a6⟩:=x
 obtain⟨b0,b1,O,b3,U,b5,b6⟩:=y
 have e0:aBin qc .neq 34 cx (.agg (Header.cells ⟨a0,I,Z,E,a4,Y,a6⟩).toArray) (.agg (Header.cells ⟨b0,b1,O,b3,U,b5,b6⟩).toArray)=(chainH [a0==b0,UW I b1,Z==O,E==b3,a4==U,UW Y b5,UW a6 b6]).map fun b=>.bool (!b):=by cases cx<;>kernel_rfl
 rw[e0,chainH_eq,Option.map_some]
 rfl
theorem hdr_eql(cx:Bool)(x y:Header):aBin qc .eql 34 cx (.agg x.cells.toArray) (.agg y.cells.toArray)=some (.bool (sameH x y)):=by
 obtain⟨a0,I,Z,E,a4,Y,a6⟩:=x
 obtain⟨b0,b1,O,b3,U,b5,b6⟩:=y
 have e0:aBin qc .eql 34 cx (.agg (Header.cells ⟨a0,I,Z,E,a4,Y,a6⟩).toArray) (.agg (Header.cells ⟨b0,b1,O,b3,U,b5,b6⟩).toArray)=(chainH [a0==b0,UW I b1,Z==O,E==b3,a4==U,UW Y b5,UW a6 b6]).map fun b=>.bool b:=by cases cx<;>kernel_rfl
 rw[e0,chainH_eq,Option.map_some]
 rfl
theorem roomGo_in(n:Int)(l:List Ext):∀(k:Nat)(at' b:Int),roomGo n l k at'=some b→at'≤b∧b<at'+k
 |0,_,_,h=>by cases h
 |k+1,at',b,h=>by
  unfold roomGo at h
  split at h
  ·cases h;omega
  ·have:=roomGo_in n l k (at'+1) b h;omega
theorem roomV_in{lo hi n b:Int}{l:List Ext}(h:roomV lo hi n l=some b):lo≤b∧b+n≤hi:=by
 unfold roomV at h
 split at h
 ·cases h
 ·have:=roomGo_in n l _ _ b h;omega
theorem begin_rest{d:Dsk}{D:Dep}{h:Header}{i:Nat}{base:Int}{W Y:Dsk×Int}(hW:W=d.write ((1+i:Nat):Int) (JY ⟨⟨h,base⟩,qi h.n.toNat false⟩))(hY:Y=W.1.sync):
 Dep.begun d D h i base=(if W.2≠0 then(W.1,D,W.2)else if Y.2≠0 then(Y.1,D,Y.2)else(Y.1,{ D with opn:=D.opn.set i (some ⟨⟨h,base⟩,qi h.n.toNat false⟩) },0)):=by subst hW hY;rfl
theorem free_in{α:Type}:∀(l:List (Option α))(k i:Nat),X4 l k=some i→k≤i∧i<k+l.length
 | [],k,i,h=>by cases h
 |none::r,k,i,h=>by unfold X4 at h;cases h;simp
 |some a::r,k,i,h=>by
  unfold X4 at h
  have:=free_in r (k+1) i h
  simp only[List.length_cons]
  omega
theorem places_len{D:Dep}{n:Nat}(h:D.Ok n):D.places.length≤12:=by
 unfold Dep.places Qs
 have h2:=qj id D.kept
 have E:=qj id D.opn
 rw[h.kept]at h2
 rw[h.opn]at E
 rw[List.length_append,qo];omega
theorem verify_ok{h:Header}{key:List UInt8}(hv:h.verify key=0):h.okP:=(h.check_zero).1 (by
 unfold Header.verify at hv
 split at hv
 ·exact absurd hv (by decide)
 ·rename_i h1
  exact(Vj _).resolve_right h1)
theorem begin_spec(P p q g:Nat)(d:Dsk)(D:Dep)(hd:Header)(M:Mem)(h:DepAt M P p q g d D)(hkey:D.key.length≤1000000)(h13:13≤d.old.length):
 Abs.Spec qc 6 [.pointer (some ⟨P,0,none⟩),.agg hd.cells.toArray] M fun u M'=>u=.int .i64 (Dep.begin d D hd).2.2∧DepAt M' P p q g (Dep.begin d D hd).1 (Dep.begin d D hd).2.1∧Only [P,p,q,g] M M'∧M.size≤M'.size:=by
 obtain⟨Z,E⟩:∃Z,Z=Dep.begin d D hd:=⟨_,rfl⟩
 rw[←E]
 unfold Dep.begin at E
 have ae:=h.dsk.ok.n
 refine WM Tryz.func6 Tryz.results6 Tryz.ntmps6 fun _=>?_
 have bx:QO qc 34 (.agg hd.cells.toArray)=some (.cells false (J6 qc 34) hd.cells):=bx_Hdr _ rfl
 have aq:Qa qc 34=some (.cells false (J6 qc 34) noHead.cells):=al_Hdr
 generalize J6 qc 34=s1 at bx aq
 have ar:Qa qc 88=some (.cells false (J6 qc 88) noRec.cells):=al_Rec
 generalize J6 qc 88=s2 at ar
 have aj:∀(s:Nat)(x:Header),Ju 7 0 (some (.cells false s x.cells))=some (.agg x.cells.toArray):=fun _ _=>rfl
 have k0:∀(s:Nat)(x:Header),cellIn 0 (some (.cells false s x.cells))=some (.int .i64 x.id):=fun _ _=>rfl
 have aO:∀x:Header,(Value.agg x.cells.toArray).cells.toList=x.cells:=fun _=>rfl
 have aW:∀(M0:Mem)(b:Nat)(x y:Header),Ji 7 M0 b 0 y.cells (some (.cells false s1 x.cells))=some (M0.set b (some (.cells false s1 y.cells))):=fun _ _ _ _=>rfl
 have aF:∀(s:Nat)(x:Rec),Ju 13 0 (some (.cells false s x.cells))=some (.agg x.cells.toArray):=fun _ _=>rfl
 have aB:∀x:Rec,(Value.agg x.cells.toArray).cells.toList=x.cells:=fun _=>rfl
 have aA:∀(M0:Mem)(b:Nat)(x y:Rec),Ji 13 M0 b 0 y.cells (some (.cells false s2 x.cells))=some (M0.set b (some (.cells false s2 y.cells))):=fun _ _ _ _=>rfl
 have be:∀b:Int,Qj qc 85 [(0,.agg hd.cells.toArray),(1,.int .i64 b)]=some (.agg (⟨hd,b⟩:Ext).cells.toArray):=fun b=>by kernel_rfl
 have bB:∀(x:Ext)(l:List Bool),Qj qc 88 [(0,.agg x.cells.toArray),(1,Xm l)]=some (.agg (⟨x,l⟩:Rec).cells.toArray):=fun x l=>by kernel_rfl
 obtain⟨b3,aV⟩:∃b,b=M.size:=⟨_,rfl⟩
 obtain⟨M1,aD⟩:∃M1,M1=M.push (.cells false s1 hd.cells):=⟨_,rfl⟩
 have a7:More M M1:=by rw[aD];exact More.push _ _
 have g3:M1.get b3=some (.cells false s1 hd.cells):=by rw[aD,aV,Mem.get_push_new]
 have h1:=h.same a7.get
 obtain⟨s,vo,vk,ab,ho,hk⟩:=h1.row
 have l4:vo.length=4:=by rw[ho.len,h1.ok.opn]
 have c0:∀s vo vk,cellIn 0 (some (.cells false s (JW p D vo vk)))=some (dp p):=fun _ _ _=>rfl
 have c1:∀s vo vk,cellIn 1 (some (.cells false s (JW p D vo vk)))=some (.string (str D.key)):=fun _ _ _=>rfl
 have a6:∀M':Mem,More M M'→Only [P,p,q,g] M M':=fun M' hm b x _ hb=>hm.get b x hb
 have ah:∀{M' M'':Mem},Only [p,q,g] M' M''→Only [P,p,q,g] M' M'':=fun h=>h.mono (by simp)
 refine J0 (R1 @bx ?_)
 rw[←aD,←aV]
 refine J0 (J0 (R0 ?_))
 refine CF (J3 ?_)
 refine S0 ?_
 refine J0 (J0 (R2 @ab @c0 ?_))
 refine K0 (dead_spec _ p q g d h1.dsk) ?_
 cases hdd:d.dead with
 |true=>
  rw[if_pos hdd]at E
  refine CT (J0 (R0 ?_))
  refine T0 ?_
  subst E
  exact⟨_,tR _,rfl,h1,a6 _ a7,by have:=a7.size;omega⟩
 |false=>
 rw[if_neg (by rw[hdd];decide)]at E
 refine CF (J3 ?_)
 refine S0 ?_
 refine J0 (J0 (D4 5 @ab @c1 @g3 @aj ?_))
 refine K0 (hverify_at D.key (by omega) hd _) ?_
 refine J0 (R0 ?_)
 refine CC (hd.verify D.key !=0) (fun hq=>J0 (R0 ?_)) (fun hq=>J3 ?_)
 ·rw[if_pos (by simpa using hq)]at E
  refine T0 ?_
  subst E
  exact⟨_,tR _,rfl,h1,a6 _ a7,by have:=a7.size;omega⟩
 have hv:hd.verify D.key=0:=by simpa using hq
 rw[if_neg (by simpa using hq)]at E
 have bp:=verify_ok hv
 have ca:=Vq bp
 refine S0 ?_
 refine J0 (J0 (R2 @g3 @k0 ?_))
 refine⟨by kernel_rfl,_,head_spec P p q g d (some D) _ hd.id M1 ⟨rfl,h1⟩,?_⟩
 rintro _ M2 ⟨rfl,bA⟩
 have he:headOr (some D) hd.id=D.headAt hd.id:=rfl
 rw[he]
 obtain⟨X,hX⟩:∃X,X=D.headAt hd.id:=⟨_,rfl⟩
 rw[←hX]at E ⊢
 refine S4 @aq @Mem.get_push_new @aO @aW ?_
 obtain⟨b6,aN⟩:∃b,b=M2.size:=⟨_,rfl⟩
 obtain⟨M3,am⟩:∃M3,M3=(M2.push (.cells false s1 noHead.cells)).set M2.size (some (.cells false s1 X.1.cells)):=⟨_,rfl⟩
 rw[←am,←aN]
 have g6:M3.get b6=some (.cells false s1 X.1.cells):=by rw[am,aN];exact Mem.get_set_same (Mem.get_push_new _ _) _
 have bi:More M2 M3:=⟨fun b x hb=>by
  have:=Mem.get_lt hb
  rw[am,Mem.get_set_ne (by omega),Mem.get_push_old this];exact hb,by rw[am,Mem.size_set,Mem.size_push];omega⟩
 have a2:=bA.trans bi
 have I:=a7.trans a2
 have h3:=h1.same a2.get
 have ao:=a2.get _ _ g3
 have O:=a2.get _ _ ab
 refine J0 (R0 ?_)
 refine CC (X.2.2==0) (fun hq=>J0 (J0 (J1 ?_))) (fun hq=>J3 ?_)
 ·rw[if_pos (by simpa using hq)]at E
  have bf:=hdr_neq
  refine S4 @g6 @ao @aj @bf ?_
  refine CC (!sameH X.1 hd) (fun hq=>J0 (R0 ?_)) (fun hq=>J3 ?_)
  ·refine T0 ?_
   rw[if_neg (fun e=>by rw[e,sameH_self]at hq;cases hq)]at E
   subst E
   exact⟨_,tR _,rfl,h3,a6 _ I,by have:=I.size;omega⟩
  refine S0 ?_
  refine J0 (R0 ?_)
  refine T0 ?_
  rw[if_pos ((sameH_iff _ _).1 (by simpa using hq))]at E
  subst E
  exact⟨_,tR _,rfl,h3,a6 _ I,by have:=I.size;omega⟩
 rw[if_neg (by simpa using hq)]at E
 have fr:=freerec_spec P 3 s 4 _ M3 _ vo D.opn O (fun i v hv=>by
  have:=(List.getElem?_eq_some_iff.1 hv).1
  rw[depC_opn _ _ _ _ l4 _ (by omega)];exact hv) (ho.same fun b x _ hb=>a2.get b x hb) (by rw[h3.ok.opn];decide)
 rw[h3.ok.opn]at fr
 refine S0 ?_
 refine J0 (R2 @O @sl_A4 ?_)
 refine K0 (fr) ?_
 cases hF:X4 D.opn 0 with
 |none=>
  rw[hF]at E
  have e1:freeI (none:Option Nat)= -1:=rfl
  have q1:decide ((-1:Int)<0)=true:=rfl
  rw[e1]
  refine J0 (J0 (R1 @q1 ?_))
  refine CT (J0 (R0 ?_))
  refine T0 ?_
  subst E
  exact⟨_,tR _,rfl,h3,a6 _ I,by have:=I.size;omega⟩
 |some i=>
 rw[hF]at E
 have aM:i<4:=by have:=(free_in _ _ _ hF).2;rw[h3.ok.opn]at this;omega
 have e1:freeI (some i)=(i:Int):=rfl
 have q1:decide ((i:Int)<0)=false:=decide_eq_false (by omega)
 rw[e1]
 refine J0 (J0 (R1 @q1 ?_))
 refine CF (J3 ?_)
 have k2:∀(s:Nat),cellIn 2 (some (.cells false s hd.cells))=some (.int .i64 hd.n):=fun _=>rfl
 refine S0 ?_
 refine J0 (CW_drawnG hmix [(9,10),(14,15)] (by kernel_rfl) ?_)
 simp only[zZ,reduceIte,yQ,yW,yX,yZ,yJ,yK,yV,zDk,Jc,Jb,J9,J8,Xx,Xh,JA,Q3,Qo,isVal,sGuardedV,Jx,JS,yY,qe,O,c0,ao,k2]
 refine⟨by kernel_rfl,_,[],at0 (dlen_spec _ p q g d h3.dsk),rfl,?_⟩
 simp only[zZ,reduceIte,yQ,yW,yX,yZ,yJ,yK,yV,zDk,Jc,Jb,J9,J8,Xx,Xh,JA,Q3,Qo,isVal,sGuardedV,Jx,JS,yY,qe,O,c0,ao,k2]
 obtain⟨V,N,pe,pN,b5⟩:=places_exact P p q g d D M3 h3
 have bz:More M3 (M3.app N):=⟨fun b x hb=>Qq M3 N b x hb,by rw[UX];omega⟩
 refine⟨by kernel_rfl,_,N,pe,pN,?_⟩
 simp only[zZ,reduceIte,yQ,yW,yX,yZ,yJ,yK,yV,zDk,Jc,Jb,J9,J8,Xx,Xh,JA,Q3,Qo,isVal,sGuardedV,Jx,JS,yY,qe]
 refine⟨by kernel_rfl,_,room_spec 13 (d.old.length:Nat) hd.n _ _ V D.places b5 (places_len h3.ok) (fun y hy=>fit_may (h3.ok.fit y hy) ae) (by omega) (by omega) (by omega) (by omega) (by omega),?_⟩
 rintro _ M5 ⟨rfl,bs⟩
 have ad:=bz.trans bs
 have af:=I.trans ad
 have h5:=h3.same ad.get
 have bt:=ad.get _ _ ao
 cases hR:roomV 13 (d.old.length:Nat) hd.n D.places with
 |none=>
  rw[hR]at E
  have e2:roomU none=.tuple #[.int .i64 0,.bool false]:=rfl
  rw[e2]
  simp only[zZ,reduceIte,yQ,yW,yX,yZ,yJ,yK,yV,zDk,Jc,Jb,J9,J8,Xx,Xh,JA,Q3,Qo,isVal,sGuardedV,Jx,JS,yY,qe]
  refine J0 (J0 (R0 ?_))
  refine CT (J0 (R0 ?_))
  refine T0 ?_
  subst E
  exact⟨_,tR _,rfl,h5,a6 _ af,by have:=af.size;omega⟩
 |some base=>
 rw[hR]at E
 have e2:roomU (some base)=.tuple #[.int .i64 base,.bool true]:=rfl
 rw[e2]
 simp only[zZ,reduceIte,yQ,yW,yX,yZ,yJ,yK,yV,zDk,Jc,Jb,J9,J8,Xx,Xh,JA,Q3,Qo,isVal,sGuardedV,Jx,JS,yY,qe]
 refine J0 (J0 (R0 ?_))
 refine CF (J3 ?_)
 obtain⟨bn,bv⟩:=roomV_in hR
 have ax:fitX D.key d.old.length ⟨hd,base⟩:=⟨hv,bn,bv⟩
 have br:JE ⟨hd,base⟩=true:=fit_may ax ae
 obtain⟨nn,an⟩:∃nn:Nat,hd.n=(nn:Int):=⟨hd.n.toNat,by omega⟩
 have bg:∀(s:Nat),cellIn 2 (some (.cells false s hd.cells))=some (.int .i64 (nn:Nat)):=fun _=>by rw[←an];rfl
 obtain⟨R,ap⟩:∃R:Rec,R=⟨⟨hd,base⟩,qi nn false⟩:=⟨_,rfl⟩
 have bj:R.may=true:=by
  rw[ap]
  unfold Rec.may
  simp only[br,List.length_replicate,an,Bool.true_and]
  simp
 obtain⟨W,hW⟩:∃W,W=d.write ((1+i:Nat):Int) (JY R):=⟨_,rfl⟩
 obtain⟨Y,hY⟩:∃Y,Y=W.1.sync:=⟨_,rfl⟩
 have aQ:(⟨⟨hd,base⟩,qi hd.n.toNat false⟩:Rec)=R:=by rw[ap,an];rfl
 simp only at E
 rw[begin_rest (by rw[aQ];exact hW) hY,aQ]at E
 have aZ:W.1.old.length=d.old.length:=by rw[hW];exact QM _ _ _
 have a8:Y.1.old.length=W.1.old.length:=by rw[hY];exact sync_len _
 refine S0 ?_
 refine J0 (D4 8 @bt @aj @bg @be ?_)
 refine⟨by kernel_rfl,_,bnew_at nn (by omega) _,?_⟩
 have au:=bB ⟨hd,base⟩ (qi nn false)
 rw[←ap]at au
 refine S5 @au @ar @Mem.get_push_new @aB @aA ?_
 obtain⟨U,av⟩:∃b,b=M5.size:=⟨_,rfl⟩
 obtain⟨M6,ak⟩:∃M6,M6=(M5.push (.cells false s2 noRec.cells)).set M5.size (some (.cells false s2 R.cells)):=⟨_,rfl⟩
 rw[←ak,←av]
 have aP:M6.get U=some (.cells false s2 R.cells):=by rw[ak,av];exact Mem.get_set_same (Mem.get_push_new _ _) _
 have aX:More M5 M6:=⟨fun b x hb=>by
  have:=Mem.get_lt hb
  rw[ak,Mem.get_set_ne (by omega),Mem.get_push_old this];exact hb,by rw[ak,Mem.size_set,Mem.size_push];omega⟩
 have aw:=af.trans aX
 have bS:=aw.size
 have h6:=h5.same aX.get
 have nP:U∉ [P,p,q,g]:=by
  obtain⟨_,_,_,e,_⟩:=h5.row
  have l1:=Mem.get_lt e
  obtain⟨_,e⟩:=h5.dsk.row
  have l2:=Mem.get_lt e
  have l3:=Mem.get_lt h5.dsk.kv
  have l4:=Mem.get_lt h5.dsk.old
  simp only[List.mem_cons,List.not_mem_nil,or_false]
  omega
 have b7:U∉ [p,q,g]:=fun h=>nP (by simp at h ⊢;exact .inr h)
 have ns:=note_spec P p q g d D M6 h6 i aM R bj
 rw[←hW]at ns
 refine J0 (J0 (R2 @aP @aF ?_))
 refine⟨by kernel_rfl,_,ns,?_⟩
 rintro _ M7 ⟨rfl,h7,aI,c9⟩
 have o7:Only [P,p,q,g] M M7:=(a6 _ aw).trans (ah aI)
 refine S0 ?_
 refine J0 (R0 ?_)
 refine CC (W.2 !=0) (fun hq=>J0 (R0 ?_)) (fun hq=>J3 ?_)
 ·rw[if_pos (by simpa using hq)]at E
  refine T0 ?_
  subst E
  exact⟨_,tR _,rfl,h7,o7,by omega⟩
 rw[if_neg (by simpa using hq)]at E
 obtain⟨s7,bZ,bX,aC,bJ,cc⟩:=h7.row
 refine S0 ?_
 refine J0 (J0 (R2 @aC @c0 ?_))
 refine⟨by kernel_rfl,_,sync_spec _ p q g W.1 h7.dsk,?_⟩
 rintro _ M8 ⟨rfl,aL,aE,cb⟩
 rw[←hY]at aL ⊢
 have h8:=h7.disk aL a8 aE
 have o8:=o7.trans (ah aE)
 refine S0 ?_
 refine J0 (R0 ?_)
 refine CC (Y.2 !=0) (fun hq=>J0 (R0 ?_)) (fun hq=>J3 ?_)
 ·rw[if_pos (by simpa using hq)]at E
  refine T0 ?_
  subst E
  exact⟨_,tR _,rfl,h8,o8,by omega⟩
 rw[if_neg (by simpa using hq)]at E
 obtain⟨s8,ac,ai,ag,ay,aS⟩:=h8.row
 have bw:ac.length=4:=by rw[ay.len,h8.ok.opn]
 have bh:ai.length=8:=by rw[aS.len,h8.ok.kept]
 have ln:=VZ p D ac ai bw bh
 have z0:(0:Int)≤(i:Int):=by omega
 have z8:(i:Int)<((4:Nat):Int):=by omega
 have bo:(i:Int)<4:=by omega
 have aY:M8.get U=some (.cells false s2 R.cells):=aE _ _ b7 (aI _ _ b7 aP)
 have aT:Ji 1 M8 P (3+i) [.pointer (some ⟨U,0,none⟩)] (some (.cells false s8 (JW p D ac ai)))=some (M8.set P (some (.cells false s8 ((JW p D ac ai).set (3+i) (.pointer (some ⟨U,0,none⟩)))))):=by
  simp only[Ji]
  rw[if_pos ⟨rfl,by show 3+i+1≤(JW p D ac ai).length;omega,rfl⟩]
  rfl
 have b8:=h8.turnO ay aS ag i aM (some R) (fun y hy=>by cases hy;rw[ap];exact⟨by rw[a8,aZ];exact ax,by rw[List.length_replicate];exact an.symm⟩) (.pointer (some ⟨U,0,none⟩)) ⟨U,s2,nP,rfl,aY⟩
 refine S0 ?_
 refine J0 (R7 @ag @z0 @z8 @bo @and_self @qf @aT ?_)
 refine J0 (R0 ?_)
 refine T0 ?_
 subst E
 exact⟨_,tR _,rfl,b8,o8.trans (Only.set (by simp) _),by rw[Mem.size_set];omega⟩
theorem blocksD_len(d:Dsk)(x:Ext):(Qx d x).1.length≤x.head.n.toNat:=by
 unfold Qx
 split
 ·simp
 ·simp
theorem blocksD_size(d:Dsk)(x:Ext):∀b∈(Qx d x).1,b.length≤224:=by
 unfold Qx
 split
 ·intro b hb;simp at hb
 ·intro b hb
  obtain⟨i,_,rfl⟩:=List.mem_map.1 hb
  rw[List.length_take];omega
theorem commit_spec(P p q g:Nat)(d:Dsk)(D:Dep)(id:Int)(M:Mem)(h:DepAt M P p q g d D):
 Abs.Spec qc 18 [.pointer (some ⟨P,0,none⟩),.int .i64 id] M fun u M'=>u=.int .i64 (Dep.commit d D id).2.2∧DepAt M' P p q g (Dep.commit d D id).1 (Dep.commit d D id).2.1∧Only [P,p,q,g] M M'∧M.size≤M'.size:=by
 obtain⟨Z,E⟩:∃Z,Z=Dep.commit d D id:=⟨_,rfl⟩
 rw[←E]
 unfold Dep.commit at E
 have aq:=h.dsk.ok.n
 refine WM Tryz.func18 Tryz.results18 Tryz.ntmps18 fun _=>?_
 have aj:Qa qc 85=some (.cells false (J6 qc 85) noExt.cells):=al_Ext
 generalize J6 qc 85=s1 at aj
 have ay:∀(s:Nat)(x:Rec),Ju 8 0 (some (.cells false s x.cells))=some (.agg x.x.cells.toArray):=fun _ _=>rfl
 have aE:∀(s:Nat)(x:Rec),Ju 5 8 (some (.cells false s x.cells))=some (Xm x.got):=fun _ _=>rfl
 have ag:∀(s:Nat)(x:Ext),Ju 8 0 (some (.cells false s x.cells))=some (.agg x.cells.toArray):=fun _ _=>rfl
 have k5:∀(s:Nat)(x:Ext),cellIn 5 (some (.cells false s x.cells))=some (.string x.head.root):=fun _ _=>rfl
 have aG:∀x:Ext,(Value.agg x.cells.toArray).cells.toList=x.cells:=fun _=>rfl
 have aK:∀(M0:Mem)(b:Nat)(x y:Ext),Ji 8 M0 b 0 y.cells (some (.cells false s1 x.cells))=some (M0.set b (some (.cells false s1 y.cells))):=fun _ _ _ _=>rfl
 have c0:∀s (D':Dep) vo vk,cellIn 0 (some (.cells false s (JW p D' vo vk)))=some (dp p):=fun _ _ _ _=>rfl
 have I:∀M':Mem,More M M'→Only [P,p,q,g] M M':=fun M' hm b x _ hb=>hm.get b x hb
 have av:∀{M' M'':Mem},Only [p,q,g] M' M''→Only [P,p,q,g] M' M'':=fun h=>h.mono (by simp)
 refine J0 (R0 ?_)
 refine J0 (R0 ?_)
 refine⟨by kernel_rfl,_,find_spec P p q g d D id M h,?_⟩
 rintro _ M1 ⟨rfl,O⟩
 have h1:=h.same O.get
 have af:=O.size
 obtain⟨s,vo,vk,Y,ho,hk⟩:=h1.row
 refine S0 ?_
 refine J0 (J7 (J0 (R2 @Y @c0 ?_)))
 refine K0 (dead_spec _ p q g d h1.dsk) ?_
 cases hdd:d.dead with
 |true=>
  rw[if_pos hdd]at E
  refine CT (J0 (R0 ?_))
  refine T0 ?_
  subst E
  exact⟨_,tR _,rfl,h1,I _ O,af⟩
 |false=>
 rw[if_neg (by rw[hdd];decide)]at E
 refine CF (J0 (J1 ?_))
 cases hE:D.ext? id with
 |some y=>
  obtain⟨j,y⟩:=y
  rw[hE]at E
  have q1:decide ((j:Int)≥0)=true:=by simp
  simp only[Zh]
  refine S1 @q1 ?_
  refine CT (J0 (R0 ?_))
  refine T0 ?_
  subst E
  exact⟨_,tR _,rfl,h1,I _ O,af⟩
 |none=>
 rw[hE]at E
 have q1:decide ((-1:Int)≥0)=false:=rfl
 simp only[Zi]
 refine S1 @q1 ?_
 refine CF (J0 (J1 ?_))
 cases hR:D.rec? id with
 |none=>
  rw[hR]at E
  have q2:decide ((-1:Int)<0)=true:=rfl
  simp only[Zi]
  refine S1 @q2 ?_
  refine CT (J0 (R0 ?_))
  refine T0 ?_
  subst E
  exact⟨_,tR _,rfl,h1,I _ O,af⟩
 |some y=>
 obtain⟨j,r⟩:=y
 rw[hR]at E
 simp only at E
 obtain⟨hj,b,s',r1,bT,gb⟩:=h1.recAt (XL hR).1
 have aZ:=h1.ok.fitO r (qh (XL hR).1)
 obtain⟨fv,aR,aC,bW⟩:=aZ
 have bS:=Vq (verify_ok fv)
 have al:fitX D.key d.old.length r.x:=⟨fv,aR,aC⟩
 have bg:JE r.x=true:=fit_may al aq
 have gl:r.got.length≤256:=by omega
 have q2:decide ((j:Int)<0)=false:=decide_eq_false (by omega)
 have z0:(0:Int)≤(j:Int):=by omega
 have z8:(j:Int)<((4:Nat):Int):=by omega
 have au:(j:Int)<4:=by omega
 rw[Y]at r1
 simp only[Zh]
 refine S1 @q2 ?_
 refine CF (J0 (R9 @z0 @z8 @au @and_self @qf @Y @r1 @gb @aE ?_))
 refine K0 (full_at r.got gl M1) ?_
 refine CC (!(r.got.all fun b=>b)) (fun hq=>J0 (R0 ?_)) (fun hq=>J3 ?_)
 ·rw[if_pos (by simpa using hq)]at E
  refine T0 ?_
  subst E
  exact⟨_,tR _,rfl,h1,I _ O,af⟩
 rw[if_neg (by simpa using hq)]at E
 refine S0 ?_
 refine J0 (J1 ?_)
 simp only[zZ,reduceIte,yQ,yW,yX,yZ,yJ,yK,yV,zDk,Jc,Jb,J9,J8,Xx,z0,z8,au,and_self,qf,Y,r1,gb,ay,aj,Mem.get_push_new,aG,aK]
 obtain⟨b7,aO⟩:∃b,b=M1.size:=⟨_,rfl⟩
 obtain⟨M2,ad⟩:∃M2,M2=(M1.push (.cells false s1 noExt.cells)).set M1.size (some (.cells false s1 r.x.cells)):=⟨_,rfl⟩
 rw[←ad,←aO]
 have g7:M2.get b7=some (.cells false s1 r.x.cells):=by rw[ad,aO];exact Mem.get_set_same (Mem.get_push_new _ _) _
 have aS:More M1 M2:=⟨fun b x hb=>by
  have:=Mem.get_lt hb
  rw[ad,Mem.get_set_ne (by omega),Mem.get_push_old this];exact hb,by rw[ad,Mem.size_set,Mem.size_push];omega⟩
 have aP:=O.trans aS
 have h2:=h1.same aS.get
 refine J0 (R2 @g7 @ag ?_)
 refine⟨by kernel_rfl,_,blocks_spec P p q g d D M2 h2 r.x r.x.head.n.toNat (by omega) aR aC,?_⟩
 rintro _ M3 ⟨V,rfl,ak,ap⟩
 have aN:=aP.trans ap
 have h3:=h2.same ap.get
 have aF:=ap.get _ _ g7
 have eb:(Qx d r.x).2=0:=by unfold Qx;rw[if_neg (by rw[hdd];simp)]
 rw[eb]
 have q3:((0:Int) !=0)=false:=rfl
 refine S0 ?_
 refine J0 (J0 (R1 @q3 ?_))
 refine CF (J3 ?_)
 obtain⟨L,hL⟩:∃L,L=(Qx d r.x).1:=⟨_,rfl⟩
 have bI:L.length≤256:=by rw[hL];have:=blocksD_len d r.x;omega
 have aY:∀b∈L,b.length≤1000000:=fun b hb=>by rw[hL]at hb;have:=blocksD_size d r.x b hb;omega
 rw[←hL]at ak E
 obtain⟨N,pe,pN⟩:=aroot_exact L (by omega) aY M3 V ak.strs
 have aw:More M3 (M3.app N):=⟨fun b x hb=>Qq M3 N b x hb,by rw[UX];omega⟩
 refine S0 ?_
 refine J0 (J0 (CW_drawG hmix 5 (by kernel_rfl) (by kernel_rfl) ?_))
 simp only[zZ,reduceIte,yQ,yW,yX,yZ,yJ,yK,yV,zDk,Jc,Jb,J9,J8,Xx,Xh,JA,Q3,Qo,isVal,sGuardedV,Jx,JS,yY,qe]
 refine⟨by kernel_rfl,_,N,pe,pN,?_⟩
 obtain⟨M4,ae⟩:∃M4,M4=M3.app N:=⟨_,rfl⟩
 have a2:More M M4:=by rw[ae];exact aN.trans aw
 have h4:DepAt M4 P p q g d D:=by rw[ae];exact h3.same aw.get
 have bo:M4.get b7=some (.cells false s1 r.x.cells):=by rw[ae];exact aw.get _ _ aF
 have aH:=a2.size
 simp only[zZ,reduceIte,yQ,yW,yX,yZ,yJ,yK,yV,zDk,Jc,Jb,J9,J8,Xx,Xh,JA,Q3,Qo,isVal,sGuardedV,Jx,JS,yY,qe,aF,k5]
 rw[←ae]
 refine CC (!UW (str (UG L)) r.x.head.root) (fun hq=>J0 (R0 ?_)) (fun hq=>J3 ?_)
 ·rw[if_pos (fun e=>by rw[e,beqB_dec]at hq;simp at hq)]at E
  refine T0 ?_
  subst E
  exact⟨_,tR _,rfl,h4,I _ a2,aH⟩
 rw[if_neg (fun hne=>by
  apply hne
  rw[beqB_dec]at hq
  simpa using hq)]at E
 obtain⟨s4,bl,aM,aa,bf,aD⟩:=h4.row
 have b9:bl.length=4:=by rw[bf.len,h4.ok.opn]
 have bi:aM.length=8:=by rw[aD.len,h4.ok.kept]
 have fr:=freeext_spec P 7 s4 8 _ M4 _ aM D.kept aa (fun i v hv=>by
  have:=(List.getElem?_eq_some_iff.1 hv).1
  rw[depC_kept _ _ _ _ b9 bi _ (by omega)];exact hv) aD (by rw[h4.ok.kept];decide)
 rw[h4.ok.kept]at fr
 refine S0 ?_
 refine J0 (R2 @aa @sl_A8 ?_)
 refine K0 (fr) ?_
 cases hF:X4 D.kept 0 with
 |none=>
  rw[hF]at E
  have e1:freeI (none:Option Nat)= -1:=rfl
  have q4:decide ((-1:Int)<0)=true:=rfl
  rw[e1]
  refine J0 (J0 (R1 @q4 ?_))
  refine CT (J0 (R0 ?_))
  refine T0 ?_
  subst E
  exact⟨_,tR _,rfl,h4,I _ a2,aH⟩
 |some i=>
 rw[hF]at E
 simp only at E
 have bh:i<8:=by have:=(free_in _ _ _ hF).2;rw[h4.ok.kept]at this;omega
 have e1:freeI (some i)=(i:Int):=rfl
 have q4:decide ((i:Int)<0)=false:=decide_eq_false (by omega)
 rw[e1]
 refine J0 (J0 (R1 @q4 ?_))
 refine CF (J3 ?_)
 have ks:=keep_spec P p q g d D M4 h4 i bh r.x bg al
 obtain⟨K,hK⟩:∃K,K=Dep.keep d D i r.x:=⟨_,rfl⟩
 rw[←hK]at ks E
 have bK:K.1.old.length=d.old.length:=by
  rw[hK,keep_rest]
  split
  ·exact QM _ _ _
  ·split
   ·exact(sync_len _).trans (QM _ _ _)
   ·exact(sync_len _).trans (QM _ _ _)
 refine S0 ?_
 refine J0 (J0 (R2 @bo @ag ?_))
 refine⟨by kernel_rfl,_,ks,?_⟩
 rintro _ M5 ⟨rfl,h5,o5,bJ⟩
 have aQ:=(I _ a2).trans o5
 refine S0 ?_
 refine J0 (R0 ?_)
 refine CC (K.2.2 !=0) (fun hq=>J0 (R0 ?_)) (fun hq=>J3 ?_)
 ·rw[if_pos (by simpa using hq)]at E
  refine T0 ?_
  subst E
  exact⟨_,tR _,rfl,h5,aQ,by omega⟩
 rw[if_neg (by simpa using hq)]at E
 have ba:K.2.1.opn=D.opn:=by
  rw[hK,keep_rest]
  split
  ·rfl
  ·split<;>rfl
 obtain⟨s5,a6,a7,a8,am,aA⟩:=h5.row
 have bj:a6.length=4:=by rw[am.len,h5.ok.opn]
 have bb:a7.length=8:=by rw[aA.len,h5.ok.kept]
 have ln:=VZ p K.2.1 a6 a7 bj bb
 have ai:Ji 1 M5 P (3+j) [.pointer none] (some (.cells false s5 (JW p K.2.1 a6 a7)))=some (M5.set P (some (.cells false s5 ((JW p K.2.1 a6 a7).set (3+j) (.pointer none))))):=by
  simp only[Ji]
  rw[if_pos ⟨rfl,by show 3+j+1≤(JW p K.2.1 a6 a7).length;omega,rfl⟩]
  rfl
 have h6:=h5.turnO am aA a8 j hj none (fun y hy=>by cases hy) (.pointer none) rfl
 rw[ba]at h6
 obtain⟨M6,an⟩:∃M6,M6=M5.set P (some (.cells false s5 ((JW p K.2.1 a6 a7).set (3+j) (.pointer none)))):=⟨_,rfl⟩
 have aW:Only [P,p,q,g] M M6:=by rw[an];exact aQ.trans (Only.set (by simp) _)
 have bD:M6.size=M5.size:=by rw[an,Mem.size_set]
 rw[←an]at h6 ai
 obtain⟨s6,bO,bz,ao,bv,bG⟩:=h6.row
 have w1:IntKind.i64.wrap (1+(j:Int))=((1+j:Nat):Int):=by rw[Xn (by omega) (by omega)];omega
 obtain⟨U,hU⟩:∃U,U=K.1.write ((1+j:Nat):Int) []:=⟨_,rfl⟩
 have ws:=Z8 M6 p q g K.1 h6.dsk ((1+j:Nat):Int) [] (by simp)
 rw[←hU]at ws E
 have b8:U.1.old.length=K.1.old.length:=by rw[hU];exact QM _ _ _
 refine S0 ?_
 refine J0 (R7 @a8 @z0 @z8 @au @and_self @qf @ai ?_)
 refine J0 (R3 @ao @c0 @w1 ?_)
 refine⟨by kernel_rfl,_,ws,?_⟩
 rintro _ M7 ⟨rfl,be,aU,bR⟩
 have ah:Only [p,q,g] M6 M7:=aU.mono (by simp)
 have h7:=h6.disk be b8 ah
 refine S0 ?_
 refine T0 ?_
 subst E
 exact⟨_,tR _,rfl,h7,aW.trans (av ah),by omega⟩
end Go.Proofs.YthohbneadomgdaaGreatDoor
namespace Go.Proofs.YthohbneadomgdaaGreatDoor
open Go.RowKit Abs Stab
theorem Hdr_zero:Tryz.t34.zero=some (.agg noHead.cells.toArray):=by kernel_rfl
theorem Hdr_bytes:Tryz.t34.bytes≤1000:=by decide
theorem new_hdr1(x:Header):JF qc 62 1 [(0,.agg x.cells.toArray)]=some (.cells false 7 x.cells):=by kernel_rfl
theorem hdapp{k:Nat}{M:Mem}{V:Value}{L:List Header}(h:XN k M V L)(hk:k≤M.size)(hl:L.length≤1000000)(x:Header):
 ∃M' V',JT qc (M.push (.cells false 7 x.cells)) 62 62 V (.slice (some ⟨M.size,0,none⟩) 1 1)=some (V',M')∧QK V'=some (M.size+1)∧XN k M' V' (L++[x])∧
  M'.size=M.size+2∧(∀b y,QK V≠some b→M.get b=some y→M'.get b=some y):=
 oapp Tryz.underlying62 inf_Hdr Hdr_zero sz_Hdr rfl Tryz.underlying62 (fun _=>rfl) Hdr_bytes h hk hl x 7
theorem keptcmp_ok:CmpOk 99:=by
 refine⟨by kernel_rfl,fun a b ha hb m=>?_⟩
 refine Abs.Spec.of_empty (by intro x hx;simp at hx;rcases hx with rfl|rfl<;>rfl) rfl ?_ m
 have w:IntKind.i64.wrap (a.id-b.id)=a.id-b.id:=Xn (by omega) (by omega)
 have I:QO qc 34 (.agg a.cells.toArray)=some (.cells false (J6 qc 34) a.cells):=bx_Hdr _ rfl
 have E:QO qc 34 (.agg b.cells.toArray)=some (.cells false (J6 qc 34) b.cells):=bx_Hdr _ rfl
 generalize J6 qc 34=s1 at I E
 have U:∀h:Header,cellIn 0 (some (.cells false s1 h.cells))=some (.int .i64 h.id):=fun h=>rfl
 have Y:(((⟨[]⟩:Mem).push (.cells false s1 a.cells)).push (.cells false s1 b.cells)).get (⟨[]⟩:Mem).size=some (.cells false s1 a.cells):=rfl
 have O:(((⟨[]⟩:Mem).push (.cells false s1 a.cells)).push (.cells false s1 b.cells)).get ((⟨[]⟩:Mem).push (.cells false s1 a.cells)).size=some (.cells false s1 b.cells):=rfl
 refine WM Tryz.func99 Tryz.results99 Tryz.ntmps99 fun _=>?_
 refine J0 (R2 @I @E ?_)
 refine J0 (R4 @Y @O @U @w ?_)
 refine T0 ?_
 first|exact⟨_,tR _,rfl⟩|exact⟨_,tR _⟩|exact⟨_,tR _,rfl,rfl⟩
theorem kept_spec(P p q g:Nat)(d:Dsk)(D:Dep)(M:Mem)(h:DepAt M P p q g d D):
 Abs.Spec qc 50 [.pointer (some ⟨P,0,none⟩)] M fun u M'=>XN M.size M' u D.keptL∧More M M':=by
 refine WM Tryz.func50 Tryz.results50 Tryz.ntmps50 fun _=>?_
 obtain⟨s,vo,vk,ab,ho,hk⟩:=h.row
 have l4:vo.length=4:=by rw[ho.len,h.ok.opn]
 have l8:vk.length=8:=by rw[hk.len,h.ok.kept]
 have rk:=row_kept s p D l4 l8
 have z9:∀i:Nat,i<100→IntKind.i64.wrap ((i:Int)+1)=((i+1:Nat):Int):=fun i hi=>by rw[Xn (by omega) (by omega)];omega
 refine J0 (R0 ?_)
 refine J0 (R0 ?_)
 refine QB (fun f M'=>∃V,f=[(3,V)]∧XN M.size M' V ((D.kept.filterMap id).map Ext.head)∧(∀b x,b<M.size→M.get b=some x→M'.get b=some x)∧M.size≤M'.size) ?_ ?_
 ·refine J0 (R0 ?_)
  refine CT (J0 (R2 @ab @rk ?_))
  refine J7 (Jr (fun j f M'=>∃(i:Nat)(V:Value),j=8-i∧f=[(3,V),(11,.agg vk.toArray),(12,.int .i64 (i:Nat))]∧i≤8∧
   XN M.size M' V (((D.kept.take i).filterMap id).map Ext.head)∧(∀b x,b<M.size→M.get b=some x→M'.get b=some x)∧M.size≤M'.size) 8 ?_ ?_)
  ·refine JK [3,11,12] ?_
   exact⟨M,tR _,0,_,rfl,rfl,by omega,OwnL.nil _ _,fun _ _ _ h=>h,qp _⟩
  ·rintro j f M' ⟨i,V,rfl,rfl,hi,E,I,a8⟩
   refine J0 (R0 ?_)
   refine J0 (CC (decide ((i:Int)<8)) (fun hq=>J3 ?_) (fun hq=>Jn ?_))
   ·have ae:=of_decide_eq_true hq
    obtain⟨o,aa⟩:∃o,D.kept[i]?=some o:=⟨_,qd (by rw[h.ok.kept];omega)⟩
    obtain⟨v,hv,hp⟩:=hk.at_ i o aa
    have ix:=ix_A8 l8 hv
    have Z:=filtm_step aa
    have w9:=z9 i (by omega)
    refine S0 ?_
    refine J0 (J7 (J0 (R1 @ix ?_)))
    refine J0 (J1 ?_)
    cases o with
    |none=>
     obtain rfl:v=.pointer none:=hp
     rw[Option.toList_none,qq]at Z
     refine S0 ?_
     refine CF (J3 ?_)
     refine S0 ?_
     refine R1 @w9 ?_
     refine JK [3,11,12] ?_
     exact⟨_,tR _,8-(i+1),⟨i+1,V,rfl,rfl,by omega,by rw[Z];exact E,I,a8⟩,by omega⟩
    |some x=>
     obtain⟨b,s',hb,rfl,gb⟩:=hp
     rw[Option.toList_some]at Z
     have ad:=I _ _ (Mem.get_lt gb) gb
     have rx:Ju 7 0 (some (.cells false s' x.cells))=some (.agg (x.head).cells.toArray):=rfl
     have nw:=new_hdr1 (x.head)
     obtain⟨M4,V4,ah,aG,O,av,a2⟩:=hdapp E a8 (by have:=filtm_len D.kept i;rw[h.ok.kept]at this;rw[qo];omega) (x.head)
     refine S0 ?_
     refine CT (R4 @ad @rx @nw @ah ?_)
     refine R1 @w9 ?_
     refine JK [3,11,12] ?_
     have e4:((D.kept.take i).filterMap id).map Ext.head++[x.head]=((D.kept.take (i+1)).filterMap id).map Ext.head:=by rw[Z,List.map_append];rfl
     rw[e4]at O
     exact⟨_,tR _,8-(i+1),⟨i+1,V4,rfl,rfl,by omega,O,fun b y hb hy=>a2 b y (fun e=>by have:=(E.live e).1;omega) (I b y hb hy),by omega⟩,by omega⟩
   ·have ae:=of_decide_eq_false hq
    obtain rfl:i=8:=by omega
    rw[List.take_of_length_le (by rw[h.ok.kept];decide)]at E
    refine JK [3] ?_
    exact⟨_,tR _,V,rfl,E,I,a8⟩
 rintro _ M2 ⟨V2,rfl,Y,a7,hs2⟩
 have so:=sorth_own 99 keptcmp_ok M.size M2 V2 _ Y (by rw[qo];have:=qj id D.kept;rw[h.ok.kept]at this;omega) (fun x hx=>by
  obtain⟨y,hy,rfl⟩:=List.mem_map.1 hx
  obtain⟨o,ac,af⟩:=List.mem_filterMap.1 hy
  cases af
  have:=(verify_ok (h.ok.fitK y ac).1)
  have h1:=this.1
  have h2:=this.2.1
  exact⟨by omega,by omega⟩)
 unfold cmpH at so
 refine J0 (R0 ?_)
 refine⟨by kernel_rfl,_,so,?_⟩
 rintro _ M3 ⟨rfl,⟨R,hR,U⟩,a6,az⟩
 rw[heads_eq hR]at U
 refine S0 ?_
 refine J0 (R0 ?_)
 refine T0 ?_
 exact⟨_,tR _,U,fun b x hb=>a6 b x (fun e=>by have:=(Y.live e).1;have:=Mem.get_lt hb;omega) (a7 b x (Mem.get_lt hb) hb),by omega⟩
theorem undercmp_ok:CmpOk 59:=by
 refine⟨by kernel_rfl,fun a b ha hb m=>?_⟩
 refine Abs.Spec.of_empty (by intro x hx;simp at hx;rcases hx with rfl|rfl<;>rfl) rfl ?_ m
 have w:IntKind.i64.wrap (a.id-b.id)=a.id-b.id:=Xn (by omega) (by omega)
 have I:QO qc 34 (.agg a.cells.toArray)=some (.cells false (J6 qc 34) a.cells):=bx_Hdr _ rfl
 have E:QO qc 34 (.agg b.cells.toArray)=some (.cells false (J6 qc 34) b.cells):=bx_Hdr _ rfl
 generalize J6 qc 34=s1 at I E
 have U:∀h:Header,cellIn 0 (some (.cells false s1 h.cells))=some (.int .i64 h.id):=fun h=>rfl
 have Y:(((⟨[]⟩:Mem).push (.cells false s1 a.cells)).push (.cells false s1 b.cells)).get (⟨[]⟩:Mem).size=some (.cells false s1 a.cells):=rfl
 have O:(((⟨[]⟩:Mem).push (.cells false s1 a.cells)).push (.cells false s1 b.cells)).get ((⟨[]⟩:Mem).push (.cells false s1 a.cells)).size=some (.cells false s1 b.cells):=rfl
 refine WM Tryz.func59 Tryz.results59 Tryz.ntmps59 fun _=>?_
 refine J0 (R2 @I @E ?_)
 refine J0 (R4 @Y @O @U @w ?_)
 refine T0 ?_
 first|exact⟨_,tR _,rfl⟩|exact⟨_,tR _⟩|exact⟨_,tR _,rfl,rfl⟩
theorem under_spec(P p q g:Nat)(d:Dsk)(D:Dep)(M:Mem)(h:DepAt M P p q g d D):
 Abs.Spec qc 22 [.pointer (some ⟨P,0,none⟩)] M fun u M'=>XN M.size M' u D.underL∧More M M':=by
 refine WM Tryz.func22 Tryz.results22 Tryz.ntmps22 fun _=>?_
 obtain⟨s,vo,vk,ab,ho,hk⟩:=h.row
 have l4:vo.length=4:=by rw[ho.len,h.ok.opn]
 have l8:vk.length=8:=by rw[hk.len,h.ok.kept]
 have rk:=row_opn s p D l4 l8
 have z9:∀i:Nat,i<100→IntKind.i64.wrap ((i:Int)+1)=((i+1:Nat):Int):=fun i hi=>by rw[Xn (by omega) (by omega)];omega
 refine J0 (R0 ?_)
 refine J0 (R0 ?_)
 refine QB (fun f M'=>∃V,f=[(3,V)]∧XN M.size M' V ((D.opn.filterMap id).map (fun r:Rec=>r.x.head))∧(∀b x,b<M.size→M.get b=some x→M'.get b=some x)∧M.size≤M'.size) ?_ ?_
 ·refine J0 (R0 ?_)
  refine CT (J0 (R2 @ab @rk ?_))
  refine J7 (Jr (fun j f M'=>∃(i:Nat)(V:Value),j=4-i∧f=[(3,V),(11,.agg vo.toArray),(12,.int .i64 (i:Nat))]∧i≤4∧
   XN M.size M' V (((D.opn.take i).filterMap id).map (fun r:Rec=>r.x.head))∧(∀b x,b<M.size→M.get b=some x→M'.get b=some x)∧M.size≤M'.size) 4 ?_ ?_)
  ·refine JK [3,11,12] ?_
   exact⟨M,tR _,0,_,rfl,rfl,by omega,OwnL.nil _ _,fun _ _ _ h=>h,qp _⟩
  ·rintro j f M' ⟨i,V,rfl,rfl,hi,E,I,a8⟩
   refine J0 (R0 ?_)
   refine J0 (CC (decide ((i:Int)<4)) (fun hq=>J3 ?_) (fun hq=>Jn ?_))
   ·have ae:=of_decide_eq_true hq
    obtain⟨o,aa⟩:∃o,D.opn[i]?=some o:=⟨_,qd (by rw[h.ok.opn];omega)⟩
    obtain⟨v,hv,hp⟩:=ho.at_ i o aa
    have ix:=ix_A4 l4 hv
    have Z:=filtm_step aa
    have w9:=z9 i (by omega)
    refine S0 ?_
    refine J0 (J7 (J0 (R1 @ix ?_)))
    refine J0 (J1 ?_)
    cases o with
    |none=>
     obtain rfl:v=.pointer none:=hp
     rw[Option.toList_none,qq]at Z
     refine S0 ?_
     refine CF (J3 ?_)
     refine S0 ?_
     refine R1 @w9 ?_
     refine JK [3,11,12] ?_
     exact⟨_,tR _,4-(i+1),⟨i+1,V,rfl,rfl,by omega,by rw[Z];exact E,I,a8⟩,by omega⟩
    |some x=>
     obtain⟨b,s',hb,rfl,gb⟩:=hp
     rw[Option.toList_some]at Z
     have ad:=I _ _ (Mem.get_lt gb) gb
     have rx:Ju 7 0 (some (.cells false s' x.cells))=some (.agg (x.x.head).cells.toArray):=rfl
     have nw:=new_hdr1 (x.x.head)
     obtain⟨M4,V4,ah,aG,O,au,a2⟩:=hdapp E a8 (by have:=filtm_len D.opn i;rw[h.ok.opn]at this;rw[qo];omega) (x.x.head)
     refine S0 ?_
     refine CT (R4 @ad @rx @nw @ah ?_)
     refine R1 @w9 ?_
     refine JK [3,11,12] ?_
     have e4:((D.opn.take i).filterMap id).map (fun r:Rec=>r.x.head)++[x.x.head]=((D.opn.take (i+1)).filterMap id).map (fun r:Rec=>r.x.head):=by rw[Z,List.map_append];rfl
     rw[e4]at O
     exact⟨_,tR _,4-(i+1),⟨i+1,V4,rfl,rfl,by omega,O,fun b y hb hy=>a2 b y (fun e=>by have:=(E.live e).1;omega) (I b y hb hy),by omega⟩,by omega⟩
   ·have ae:=of_decide_eq_false hq
    obtain rfl:i=4:=by omega
    rw[List.take_of_length_le (by rw[h.ok.opn];decide)]at E
    refine JK [3] ?_
    exact⟨_,tR _,V,rfl,E,I,a8⟩
 rintro _ M2 ⟨V2,rfl,Y,a7,hs2⟩
 have so:=sorth_own 59 undercmp_ok M.size M2 V2 _ Y (by rw[qo];have:=qj id D.opn;rw[h.ok.opn]at this;omega) (fun x hx=>by
  obtain⟨y,hy,rfl⟩:=List.mem_map.1 hx
  obtain⟨o,ac,af⟩:=List.mem_filterMap.1 hy
  cases af
  have:=(verify_ok (h.ok.fitO y ac).1)
  have h1:=this.1
  have h2:=this.2.1
  exact⟨by omega,by omega⟩)
 unfold cmpH at so
 refine J0 (R0 ?_)
 refine⟨by kernel_rfl,_,so,?_⟩
 rintro _ M3 ⟨rfl,⟨R,hR,U⟩,a6,az⟩
 rw[heads_eq hR]at U
 refine S0 ?_
 refine J0 (R0 ?_)
 refine T0 ?_
 exact⟨_,tR _,U,fun b x hb=>a6 b x (fun e=>by have:=(Y.live e).1;have:=Mem.get_lt hb;omega) (a7 b x (Mem.get_lt hb) hb),by omega⟩
end Go.Proofs.YthohbneadomgdaaGreatDoor
namespace Go.Proofs.YthohbneadomgdaaGreatDoor
open Go.RowKit Abs
theorem hdrs_len{k:Nat}{M:Mem}{V:Value}{L:List Header}(h:XN k M V L):∃a c,V=.slice a L.length c:=OwnL.len h
theorem awake25_spec(M:Mem):Abs.Spec qc 17 [] M fun u M'=>u=.bool true∧More M M':=by
 obtain⟨key,Y⟩:∃k,k=Sha.headKey ([115]:List UInt8):=⟨_,rfl⟩
 have aR:key.length≤1000000:=by rw[Y,Z0];decide
 obtain⟨A,hA⟩:∃A,A=Vl [115] saltL 1 hello 1000:=⟨_,rfl⟩
 have O:Up [115] [hello]=[A]:=by rw[hA];rfl
 have av:ArcOk key A:=by
  have:=(made_ok (sec:=[115]) (T:=[hello]) (a:=A) (by rw[O];simp)).1
  rw[Y];exact this
 have Z:A.blocks.length=1:=by rw[hA,arcOf_len];rfl
 obtain⟨b0,aj⟩:∃b,A.blocks[0]?=some b:=⟨_,qd (by omega)⟩
 have aH:b0.length=224:=av.size b0 (qh aj)
 have aQ:A.head.id=1:=by rw[hA];rfl
 obtain⟨d1,G,d2,d3,w1,w2,w3⟩:=wake_plain key A av Z b0 aj
 rw[aQ]at w2 w3
 have e1:(⟨#[115]⟩:ByteArray)=str [115]:=rfl
 have e5:(⟨#[104,101,108,108,111]⟩:ByteArray)=str hello:=rfl
 have q0:((0:Int) !=0)=false:=rfl
 have q1:((1:Int) !=1)=false:=rfl
 have q2:((0:Int)==0)=true:=rfl
 have q3:(((1:Nat):Int)==1)=true:=rfl
 have q4:(((0:Nat):Int) !=0)=false:=rfl
 refine WM Tryz.func17 Tryz.results17 Tryz.ntmps17 fun _=>?_
 refine J0 (R0 ?_)
 refine J0 (R0 ?_)
 refine⟨by kernel_rfl,_,new_spec M 20 (by decide) (by decide),?_⟩
 rintro _ M1 ⟨p,q,g,rfl,aa,hp,hq,hg,aP,bA⟩
 have ag:dp p=.pointer (some ⟨p,0,none⟩):=rfl
 have pl:p<M1.size:=by obtain⟨s,h⟩:=aa.row;exact Qb h
 have ql:q<M1.size:=Qb aa.kv
 have gl:g<M1.size:=Qb aa.old
 refine S0 ?_
 obtain⟨M2,U⟩:∃M2,M2=M1.push (.cells false 1 (encS hello)):=⟨_,rfl⟩
 have hs2:M2.size=M1.size+1:=by rw[U,Mem.size_push]
 have nw:=Vf hello
 have rd:StrsRd M2 (.slice (some ⟨M1.size,0,none⟩) 1 1) [hello]:=⟨_,_,rfl,qp _,(fun e=>by cases e),fun i x hx=>by
  obtain rfl:i=0:=by
   cases i with
   |zero=>rfl
   |succ i=>cases hx
  cases hx
  exact⟨M1.size,0,false,_,rfl,by rw[U,Mem.get_push_new],rfl⟩⟩
 refine J0 (R3 @e1 @e5 @nw ?_)
 rw[←U]
 refine⟨by kernel_rfl,_,made_spec [115] (by decide) [hello] (by decide) (by intro t ht;simp at ht;subst ht;decide) M2 _ rd,?_⟩
 rintro VL M3 ⟨LA,aC,ab,ac⟩
 rw[O]at aC
 obtain⟨x,rfl,hx⟩:∃x,LA=[x]∧x.1=A:=by
  match LA,aC with
  | [x],h=>exact⟨x,rfl,by simpa using h⟩
 obtain⟨xa,xv⟩:=x
 obtain rfl:xa=A:=hx
 have aO:DskAt M3 p q g (Q9 20):=(aa.same fun b x hb=>by rw[U,Mem.get_push_old (Mem.get_lt hb)];exact hb).same ac.get
 have bq:=ac.size
 rcases ab.1 with⟨h0,_⟩|⟨_,gA,bx,rfl,au⟩
 ·cases h0
 have ao:=ab.2 _ (List.mem_singleton.2 rfl)
 simp only at ao
 rcases ao with⟨h0,_⟩|⟨_,gB,bv,rfl,aB⟩
 ·rw[h0]at Z;cases Z
 rw[Z]
 have az:M3.get gA=some (.cells false 8 (Jq xa.head (.slice (some ⟨gB,0,none⟩) 1 1))):=by
  rw[au]
  simp only[List.flatMap_cons,List.flatMap_nil,qq]
  unfold arcV
  rw[Z]
 have ap:∀s,Ju 7 0 (some (.cells false s (Jq xa.head (.slice (some ⟨gB,0,none⟩) 1 1))))=some (.agg xa.head.cells.toArray):=fun _=>rfl
 have aS:∀s,cellIn 7 (some (.cells false s (Jq xa.head (.slice (some ⟨gB,0,none⟩) 1 1))))=some (.slice (some ⟨gB,0,none⟩) 1 1):=fun _=>rfl
 have cB:cellIn 0 (some (.cells false 1 (xa.blocks.flatMap encS)))=some (.string (str b0)):=by
  show(xa.blocks.flatMap fun s=>[Value.string (str s)])[0]?=_
  rw[Z2,List.getElem?_map,aj];rfl
 have lA:=Mem.get_lt au
 have lB:=Mem.get_lt aB
 refine S1 @qk.{0} ?_
 refine J0 (J0 (R2 @q0 @ag ?_))
 refine CF (J3 ?_)
 refine S0 ?_
 refine J0 (R2 @e1 @ag ?_)
 have os:=open_spec M3 p q g (Q9 20) aO (str [115]) (by decide)
 rw[show(str [115]).data.toList=([115]:List UInt8)from rfl,←Y,open_new 20 (by decide) (by decide) key,ag]at os
 refine⟨by kernel_rfl,_,os,?_⟩
 rintro _ M4 ⟨v,rfl,ae,ah,bp⟩
 obtain⟨P,rfl,hP,I⟩:=ae
 have I:DepAt M4 P p q g (JQ 20) (Dp0 key 1 0):=I
 have aW:=ah gA _ (by simp;omega) az
 have aT:=ah gB _ (by simp;omega) aB
 have aU:((some (Dp0 key 1 0):Option Dep).map Dep.epoch).getD 0=1:=rfl
 have aA:=depoch_spec P p q g (JQ 20) (some (Dp0 key 1 0)) _ M4 ⟨rfl,I⟩
 rw[aU]at aA
 refine S0 ?_
 refine J0 (J0 (R1 @q0 ?_))
 refine K1 @q1 (aA) ?_
 refine⟨by kernel_rfl,_,kept_spec P p q g (JQ 20) (Dp0 key 1 0) M4 I,?_⟩
 rintro K M5 ⟨hK,E⟩
 rw[kept_d0]at hK
 obtain⟨aK,cK,rfl⟩:=hdrs_len hK
 refine S2 @List.length_nil.{0} @q4 ?_
 refine CF (J3 ?_)
 have ar:=I.same E.get
 have aD:=E.get _ _ aW
 have aG:=E.get _ _ aT
 have z0:(0:Int)≤0:=by omega
 have z1:(0:Int)<((1:Nat):Int):=by omega
 have ax:(0:Int)<1:=by omega
 have z2:(0:Int).toNat=0:=rfl
 have bs:=begin_spec P p q g (JQ 20) (Dp0 key 1 0) xa.head M5 ar aR (by simp[JQ])
 rw[w1]at bs
 refine S0 ?_
 refine J0 (R8 @z0 @z1 @ax @z2 @and_self @Nat.zero_mul @aD @ap ?_)
 refine⟨by kernel_rfl,_,bs,?_⟩
 rintro _ M6 ⟨rfl,aq,ad,bl⟩
 have aL:=ad gA _ (by simp;have:=E.size;omega) aD
 have aX:=ad gB _ (by simp;have:=E.size;omega) aG
 have ss:=Ka P p q g d1 (Zm key xa 1 0 G) 1 0 b0 (by omega) ⟨by show(-1000000:Int)≤0;decide,by show(0:Int)≤1000000000;decide⟩ M6 aq
 rw[w2]at ss
 refine S0 ?_
 refine J0 (J1 ?_)
 simp only[zZ,reduceIte,yQ,yW,yX,yZ,yJ,yK,yV,zDk,Jc,Jb,J9,J8,Xx,z0,z1,ax,z2,and_self,Nat.zero_mul,aL,aS,aX,cB]
 refine⟨by kernel_rfl,_,ss,?_⟩
 rintro _ M7 ⟨rfl,am,aE,bH⟩
 have cs:=commit_spec P p q g d2 (Zm key xa 1 1 [true]) 1 M7 am
 rw[w3]at cs
 refine S0 ?_
 refine J0 (R0 ?_)
 refine⟨by kernel_rfl,_,cs,?_⟩
 rintro _ M8 ⟨rfl,ay,aV,bJ⟩
 refine S0 ?_
 refine J0 (R1 @q2 ?_)
 refine⟨by kernel_rfl,_,kept_spec P p q g d3 (Dp2 key xa 1 1) M8 ay,?_⟩
 rintro K M9 ⟨hK,ai⟩
 rw[kept_d2]at hK
 obtain⟨aK,cK,rfl⟩:=hdrs_len hK
 refine S2 @qk.{0} @q3 ?_
 refine T0 ?_
 have old:∀b x,M.get b=some x→M9.get b=some x:=fun b x hb=>by
  have l:=Mem.get_lt hb
  have a1:=aP b x (by simp) hb
  have a2:M2.get b=some x:=by rw[U,Mem.get_push_old (by omega)];exact a1
  have a3:=ac.get b x a2
  have a4:=ah b x (by simp;omega) a3
  have a5:=E.get b x a4
  have a6:=ad b x (by simp;omega) a5
  have a7:=aE b x (by simp;omega) a6
  exact ai.get b x (aV b x (by simp;omega) a7)
 first|exact⟨_,tR _,rfl,old,by have:=E.size;have:=ai.size;omega⟩|exact⟨_,tR _,old,by have:=E.size;have:=ai.size;omega⟩
def encN(x:Int):List Value:=[.int .i64 x]
abbrev NumsRd(M:Mem)(v:Value)(X:List Int):Prop:=Rd M 1 v X.length (X.flatMap encN)
theorem pick_mod(x:Int)(n:Nat)(h1:1≤n)(h2:n≤1000)(hx: -9223372036854775808≤x∧x≤9223372036854775807):∃k:Nat,k<n∧IntKind.i64.wrap (x.tmod (n:Int))=x.tmod (n:Int)∧IntKind.i64.wrap (x.tmod (n:Int)+(n:Int))=x.tmod (n:Int)+(n:Int)∧
 (x.tmod (n:Int)+(n:Int)).tmod (n:Int)=((k:Nat):Int)∧IntKind.i64.wrap ((k:Nat):Int)=((k:Nat):Int):=by
 have E:(0:Int)<(n:Int):=by omega
 have O:=Int.tmod_lt_of_pos x E
 have Y:=Int.lt_tmod_of_pos x E
 have I:0≤x.tmod (n:Int)+(n:Int):=by omega
 have e:(x.tmod (n:Int)+(n:Int)).tmod (n:Int)=(x.tmod (n:Int)+(n:Int))%(n:Int):=Int.tmod_eq_emod_of_nonneg I
 have Z:=Int.emod_nonneg (x.tmod (n:Int)+(n:Int)) (show(n:Int)≠0 by omega)
 have U:=Int.emod_lt_of_pos (x.tmod (n:Int)+(n:Int)) E
 refine⟨((x.tmod (n:Int)+(n:Int))%(n:Int)).toNat,by omega,Xn (by omega) (by omega),Xn (by omega) (by omega),by rw[e];omega,Xn (by omega) (by omega)⟩
theorem fuse31_le(x:Int):bits .and .i64 x 31≤9223372036854775807:=by
 have E:(BitVec.ofInt 64 31).toNat=2^5-1:=by decide
 have key:(BitVec.ofInt 64 x&&&BitVec.ofInt 64 31).toNat=(x%((2^64:Nat):Int)).toNat%2^5:=by
  rw[BitVec.toNat_and,BitVec.toNat_ofInt,E,Nat.and_two_pow_sub_one_eq_mod]
 show IntKind.i64.wrap ((BitVec.ofInt 64 x&&&BitVec.ofInt 64 31).toNat:Nat)≤_
 rw[key,IntKind.wrap_i64]
 omega
section
variable {key : List UInt8} {a : Arc} {d : Dsk} {D : Dep} {e : Nat} {ep st : Int} {Gp G : List Bool}
def Wri(key:List UInt8)(a:Arc)(e:Nat)(j:Int)(G:List Bool)(d:Dsk)(D:Dep):Prop:=∃ep st Gp,D=Zm key a ep st G∧Sess a e d Gp G∧d.dead=false∧0≤st∧st≤j
theorem set_true_same{G:List Bool}{k:Nat}(h:G.getD k false=true):G.set k true=G:=by
 apply set_same
 rw[List.getD_eq_getElem?_getD]at h
 cases hg:G[k]? with
 |none=>rw[hg]at h;cases h
 |some x=>rw[hg]at h;simp only[Option.getD_some]at h;rw[h]
theorem wri_stage(hk:ArcOk key a)(hl:a.blocks.length≤6){j:Int}(h:Wri key a e j G d D){k:Nat}{b:List UInt8}(hb:a.blocks[k]?=some b):
 ((Dep.stage d D a.head.id (k:Int) b).2.2=0∧Wri key a e (j+1) (G.set k true) (Dep.stage d D a.head.id (k:Int) b).1 (Dep.stage d D a.head.id (k:Int) b).2.1∧(d.live→(Dep.stage d D a.head.id (k:Int) b).1.live))∨
 (¬d.live∧(Dep.stage d D a.head.id (k:Int) b).2.2=7∧Hist a (Dep.stage d D a.head.id (k:Int) b).1 e fun _=>True):=by
 obtain⟨ep,st,Gp,rfl,hs,O,Z,hj⟩:=h
 rw[stage_d1 hk O hb]
 by_cases hG:G.getD k false=true
 ·rw[if_pos hG,set_true_same hG]
  exact .inl ⟨rfl,⟨ep,st,Gp,rfl,hs,O,Z,by omega⟩,id⟩
 ·rw[if_neg hG]
  rcases sess_stage (ep:=ep) (st:=st) hk hl hs O k b hb (by simpa using hG)with⟨U,E,Y,I,b5⟩|⟨U,E,_,I,_⟩
  ·exact .inl ⟨U,⟨ep,st+1,G,E,Y,I,by omega,by omega⟩,b5⟩
  ·exact .inr ⟨U,E,I.weaken (qp _) fun _ _=>trivial⟩
theorem wri_begin0(hk:ArcOk key a)(hl:a.blocks.length≤6){P:List Bool→Prop}(h:Hist a d e P)(hc:Clean d)(h1:JN (d.sector 1)=[])(h5:JN (d.sector 5)=[])(hd:d.dead=false){ep:Int}:
 ((Dep.begin d (Dp0 key ep 0) a.head).2.2=0∧Wri key a e 0 (QU a) (Dep.begin d (Dp0 key ep 0) a.head).1 (Dep.begin d (Dp0 key ep 0) a.head).2.1∧(d.live→(Dep.begin d (Dp0 key ep 0) a.head).1.live))∨
 (¬d.live∧(Dep.begin d (Dp0 key ep 0) a.head).2.2=7∧Hist a (Dep.begin d (Dp0 key ep 0) a.head).1 e fun _=>True):=by
 rcases sess_begin (ep:=ep) (st:=0) hk hl h hc h1 h5 hd with⟨O,E,U,I,Y⟩|⟨O,E,_,I,_⟩
 ·exact .inl ⟨O,⟨ep,0,_,E,U,I,by omega,by omega⟩,Y⟩
 ·exact .inr ⟨O,E,I.weaken (qp _) fun _ _=>trivial⟩
structure Laid(key:List UInt8)(a:Arc)(e:Nat)(d:Dsk):Prop where
 hist:Hist a d e fun _=>True
 five:∀s,d.poss 5 s→s=Jg (Jy a.ext)
def Has2(key:List UInt8)(a:Arc)(d:Dsk)(D:Dep):Prop:=(∃ep st,D=Dp2 key a ep st)∧Sure a d (qi a.blocks.length true)∧d.dead=false∧20≤d.old.length
theorem has2_read(hk:ArcOk key a)(hl:a.blocks.length≤6)(h:Has2 key a d D):Dep.read d D a.head.id=(a,0):=by
 obtain⟨⟨ep,O,rfl⟩,hs,E,I⟩:=h
 unfold Dep.read
 rw[d2_ext]
 simp only
 have hb:Qx d a.ext=(a.blocks,0):=blocks_sure hk hl I E hs
 rw[hb,if_neg (by simp)]
 rfl
theorem wri_read{j:Int}(h:Wri key a e j G d D)(id:Int):Dep.read d D id=(noArc,8):=by
 obtain⟨ep,E,Gp,rfl,_⟩:=h
 unfold Dep.read
 rw[d1_ext]
theorem wri_commit(hk:ArcOk key a)(hl:a.blocks.length≤6){j:Int}(hG:G=qi a.blocks.length true)(h:Wri key a e j G d D):
 ((Dep.commit d D a.head.id).2.2=0∧Laid key a e (Dep.commit d D a.head.id).1∧Has2 key a (Dep.commit d D a.head.id).1 (Dep.commit d D a.head.id).2.1)∨
 (¬d.live∧(Dep.commit d D a.head.id).2.2=7∧Hist a (Dep.commit d D a.head.id).1 e fun _=>True):=by
 obtain⟨ep,st,Gp,rfl,hs,U,_⟩:=h
 rcases sess_commit (ep:=ep) (st:=st) hk hl hG hs U with⟨Z,I,E,O,b5,Y,_⟩|h
 ·exact .inl ⟨Z,⟨E,O⟩,⟨ep,st,I⟩,b5,Y,E.n⟩
 ·exact .inr h
theorem cat_full(hk:ArcOk key a)(hl:a.blocks.length≤6):JN (Jg (Jy a.ext))≠ []:=fun h=>by
 have h1:=Ut h
 rw[catTake_text (Ku hk hl)]at h1
 have:=congrArg Prod.snd h1
 exact absurd this (show¬((0:Int)=8) by decide)
theorem vis_open(hk:ArcOk key a)(hl:a.blocks.length≤6)(h:Hist a d e fun _=>True)(he:e<4294967295)(bits:Int):
 ∃d' D,openD (d.crash bits) key=(d',some D,0)∧d'.live∧d'.Ok∧20≤d'.old.length∧
  (Has2 key a d' D∨((¬Laid key a e d)∧Dep.read d' D a.head.id=(noArc,8)∧D.key=key∧
   ∃G,(G.length=a.blocks.length)∧(Dep.begin d' D a.head).2.2=0∧Wri key a (e+1) 0 G (Dep.begin d' D a.head).1 (Dep.begin d' D a.head).2.1∧(Dep.begin d' D a.head).1.live)):=by
 obtain⟨d',D,Z,h2⟩:=reopen hk hl (h.crash bits) (Dsk.crash_live d bits) (crash_clean d bits) he
 have O:Laid key a e d→(d.crash bits).sector 5=Jg (Jy a.ext):=fun I=>I.five _ (Dsk.crash_poss (Dsk.poss_sector (by rw[Dsk.crash_len];have:=h.n;omega))).1
 have ln:=hk.len
 refine⟨d',D,Z,h2.live,h2.hist.ok,h2.hist.n,?_⟩
 rcases h2.how with⟨I,_,⟨ep,rfl⟩,E,h7⟩|⟨G,I,_,_,⟨ep,rfl⟩,E⟩|⟨_,⟨ep,rfl⟩,E⟩
 ·refine .inr ⟨fun hL=>cat_full hk hl (by rw[←O hL];exact I),rfl,rfl,QU a,?_,?_⟩
  ·have:=Kr hk;omega
  rcases wri_begin0 (ep:=ep) hk hl h2.hist h2.clean E h7 h2.live.1 with⟨U,Y,b3⟩|⟨U,_⟩
  ·exact⟨U,Y,b3 h2.live⟩
  ·exact absurd h2.live U
 ·refine .inr ⟨fun hL=>cat_full hk hl (by rw[←O hL];exact I),rfl,rfl,G,?_,?_⟩
  ·have:=E.len;omega
  rw[begin_under hk h2.live.1]
  exact⟨rfl,⟨ep,0,G,rfl,E,h2.live.1,by omega,by omega⟩,h2.live⟩
 ·exact .inl ⟨⟨ep,0,rfl⟩,E,h2.live.1,h2.hist.n⟩
end
theorem StrsRd.cell{M:Mem}{a:Option Addr}{n c:Nat}{L:List (List UInt8)}(h:StrsRd M (.slice a n c) L){i:Nat}{x:List UInt8}(hx:L[i]?=some x):∃b o ro cs,a=some ⟨b,o,none⟩∧M.get b=some (.cells ro 1 cs)∧cs[o+i]?=some (.string (str x)):=by
 obtain⟨O,I,e,_,_,E⟩:=h
 cases e
 exact E i x hx
theorem beqB_strs(a b:List UInt8):UW (str a) (str b)=decide (a=b):=by
 rw[beqB_dec,decide_eq_decide]
 exact⟨fun h=>congrArg (fun x=>x.data.toList) h,fun h=>by rw[h]⟩
theorem take_same{α:Type}{L K:List α}{i:Nat}{x:α}(h:L.take i=K.take i)(h1:L[i]?=some x)(h2:K[i]?=some x):L.take (i+1)=K.take (i+1):=by
 rw[List.take_add_one,List.take_add_one,h,h1,h2]
theorem texts_spec(L K:List (List UInt8))(hl:L.length≤100000)(hk:K.length≤100000)(M:Mem)(v w:Value)(h:StrsRd M v L)(h':StrsRd M w K):
 Abs.Spec qc 56 [v,w] M fun u M'=>u=.bool (decide (L=K))∧M'=M:=by
 have⟨a,c,e1,_⟩:=h
 have⟨b,d,e2,_⟩:=h'
 subst e1
 subst e2
 refine WM Tryz.func56 Tryz.results56 Tryz.ntmps56 fun _=>?_
 refine J0 (R0 ?_)
 refine J0 (J0 (R0 ?_))
 refine CC (((L.length:Nat):Int) !=((K.length:Nat):Int)) (fun hq=>J0 (R0 ?_)) (fun hq=>J3 ?_)
 ·refine T0 ?_
  have E:L≠K:=fun e=>by subst e;simp at hq
  exact⟨M,tR _,by rw[decide_eq_false E],rfl⟩
 ·have U:L.length=K.length:=by simp at hq;omega
  refine S0 ?_
  refine QB (fun f M'=>f=[]∧M'=M∧L=K) ?_ ?_
  ·refine J0 (R0 ?_)
   refine J7 (Jr (fun j f M'=>∃i:Nat,j=L.length-i∧f=[(0,.slice a L.length c),(1,.slice b K.length d),(5,.int .i64 (i:Nat))]∧i≤L.length∧L.take i=K.take i∧M'=M) L.length ?_ ?_)
   ·refine JK [0,1,5] ?_
    exact⟨M,tR _,0,rfl,rfl,by omega,rfl,rfl⟩
   ·rintro j f M' ⟨i,rfl,rfl,hi,Y,rfl⟩
    refine J0 (J0 (R0 ?_))
    refine(CC (decide ((i:Int)<(L.length:Int))) (fun hq=>J3 ?_) (fun hq=>Jn ?_))
    ·have O:=of_decide_eq_true hq
     obtain⟨x,hx⟩:∃x,L[i]?=some x:=⟨_,qd (by omega)⟩
     obtain⟨y,Z⟩:∃y,K[i]?=some y:=⟨_,qd (by omega)⟩
     obtain⟨b1,o1,a7,aa,rfl,g1,c1⟩:=h.cell hx
     obtain⟨b2,o2,a6,ae,rfl,g2,c2⟩:=h'.cell Z
     have z0:(0:Int)≤(i:Int):=by omega
     have z1:(i:Int)<(K.length:Int):=by omega
     have w1:IntKind.i64.wrap ((i:Int)+1)=((i+1:Nat):Int):=by rw[Xn (by omega) (by omega)];omega
     refine S0 ?_
     refine J0 (J7 (J0 (D9 8 @z0 @O @z1 @and_self @g1 @g2 @qf @c1 @c2 ?_)))
     refine CC (!UW (str x) (str y)) (fun hb=>J0 (J1 ?_)) (fun hb=>J3 ?_)
     ·rw[beqB_strs]at hb
      have I:x≠y:=by simpa using hb
      have E:L≠K:=fun e=>I (by rw[e,Z]at hx;exact(Option.some.inj hx).symm)
      refine S0 ?_
      refine T0 ?_
      exact⟨M',tR _,by rw[decide_eq_false E],rfl⟩
     ·rw[beqB_strs]at hb
      have I:x=y:=by simpa using hb
      subst I
      refine S0 ?_
      refine R1 @w1 ?_
      refine JK [0,1,5] ?_
      exact⟨M',tR _,L.length-(i+1),⟨i+1,rfl,rfl,by omega,take_same Y hx Z,rfl⟩,by omega⟩
    ·have O:=of_decide_eq_false hq
     obtain rfl:i=L.length:=by omega
     rw[List.take_length,U,List.take_length]at Y
     refine S0 ?_
     refine JK [] ?_
     exact⟨M',tR _,rfl,Y⟩
  ·rintro f M1 ⟨rfl,rfl,e⟩
   refine J0 (R0 ?_)
   refine T0 ?_
   exact⟨_,tR _,by rw[decide_eq_true e],rfl⟩
theorem asame_spec(A B:Arc)(hl:A.blocks.length≤100000)(hk:B.blocks.length≤100000)(M:Mem)(v w:Value)(h:StrsRd M v A.blocks)(h':StrsRd M w B.blocks):
 ∃N,Abs.Spec qc 20 [.agg (Jq A.head v).toArray,.agg (Jq B.head w).toArray] M (fun u M'=>u=.bool (sameH A.head B.head&&decide (A.blocks=B.blocks))∧M'=M.app N)∧N.all ZK=true:=by
 have⟨a,c,e1,_⟩:=h
 have⟨b,d,e2,_⟩:=h'
 subst e1
 subst e2
 have bx:∀(h:Header) a n c,QO qc 36 (.agg (Jq h (.slice a n c)).toArray)=some (.cells false (J6 qc 36) (Jq h (.slice a n c))):=fun _ _ _ _=>bx_Arc _ rfl
 generalize J6 qc 36=s3 at bx
 have O:∀(s:Nat)(h:Header) V,Ju 7 0 (some (.cells false s (Jq h V)))=some (.agg h.cells.toArray):=fun _ _ _=>rfl
 have k7:∀(s:Nat)(h:Header) V,cellIn 7 (some (.cells false s (Jq h V)))=some V:=fun _ _ _=>rfl
 obtain⟨N,hN⟩:∃N,N=[some (Blk.cells false s3 (Jq A.head (.slice a A.blocks.length c))),some (Blk.cells false s3 (Jq B.head (.slice b B.blocks.length d)))]:=⟨_,rfl⟩
 refine⟨N,?_,by rw[hN];rfl⟩
 obtain⟨Y,E⟩:∃Y,Y=M.push (.cells false s3 (Jq A.head (.slice a A.blocks.length c))):=⟨_,rfl⟩
 obtain⟨U,I⟩:∃U,U=Y.push (.cells false s3 (Jq B.head (.slice b B.blocks.length d))):=⟨_,rfl⟩
 have Z:U=M.app N:=by
  rw[I,E,hN]
  conv=>lhs;rw[show M=M.app [] by simp[Mem.app]]
  rw[Vm,Vm];rfl
 have o2:∀b x,M.get b=some x→U.get b=some x:=fun b x hx=>by rw[Z];exact Qq M N b x hx
 have z1:Y.size=M.size+1:=by rw[E,Mem.size_push]
 have g1:U.get M.size=some (.cells false s3 (Jq A.head (.slice a A.blocks.length c))):=by rw[I,Mem.get_push_old (by omega),E,Mem.get_push_new]
 have g2:U.get Y.size=some (.cells false s3 (Jq B.head (.slice b B.blocks.length d))):=by rw[I,Mem.get_push_new]
 have hs:=texts_spec A.blocks B.blocks hl hk U _ _ (h.same o2) (h'.same o2)
 refine WM Tryz.func20 Tryz.results20 Tryz.ntmps20 fun _=>?_
 refine J0 (R1 @bx ?_)
 rw[←E,←I]
 cases e:sameH A.head B.head with
 |false=>
  refine J0 (R5 @g1 @g2 @O @hdr_eql @e ?_)
  refine T0 ?_
  exact⟨_,tR _,rfl,Z⟩
 |true=>
  refine J0 (R6 @g1 @g2 @O @k7 @hdr_eql @e ?_)
  refine K0 (hs) ?_
  refine T0 ?_
  exact⟨_,tR _,Z⟩
theorem shape_spec(A:Arc)(hn:(A.blocks.length:Int)=A.head.n)(hl:A.blocks.length≤100000)(hs:∀b∈A.blocks,b.length=224)(M:Mem)(v:Value)(h:StrsRd M v A.blocks):
 ∃N,Abs.Spec qc 57 [.agg (Jq A.head v).toArray] M (fun u M'=>u=.int .i64 0∧M'=M.app N)∧N.all ZK=true:=by
 have⟨a,c,e1,_⟩:=h
 subst e1
 have Z:∀(h:Header) a n c,QO qc 36 (.agg (Jq h (.slice a n c)).toArray)=some (.cells false (J6 qc 36) (Jq h (.slice a n c))):=fun _ _ _ _=>bx_Arc _ rfl
 generalize J6 qc 36=s3 at Z
 have k7:∀(s:Nat)(h:Header) V,cellIn 7 (some (.cells false s (Jq h V)))=some V:=fun _ _ _=>rfl
 have k2:∀(s:Nat)(h:Header) V,cellIn 2 (some (.cells false s (Jq h V)))=some (.int .i64 h.n):=fun _ _ _=>rfl
 obtain⟨N,hN⟩:∃N,N=[some (Blk.cells false s3 (Jq A.head (.slice a A.blocks.length c)))]:=⟨_,rfl⟩
 refine⟨N,?_,by rw[hN];rfl⟩
 obtain⟨E,I⟩:∃E,E=M.push (.cells false s3 (Jq A.head (.slice a A.blocks.length c))):=⟨_,rfl⟩
 have Y:E=M.app N:=by
  rw[I,hN]
  conv=>lhs;rw[show M=M.app [] by simp[Mem.app]]
  rw[Vm];rfl
 have o1:∀b x,M.get b=some x→E.get b=some x:=fun b x hx=>by rw[Y];exact Qq M N b x hx
 have g1:E.get M.size=some (.cells false s3 (Jq A.head (.slice a A.blocks.length c))):=by rw[I,Mem.get_push_new]
 have q1:(((A.blocks.length:Nat):Int) !=A.head.n)=false:=by rw[hn];simp
 have h1:=h.same o1
 refine WM Tryz.func57 Tryz.results57 Tryz.ntmps57 fun _=>?_
 refine J0 (R1 @Z ?_)
 rw[←I]
 refine J0 (J0 (R4 @g1 @k7 @k2 @q1 ?_))
 refine CF (J3 ?_)
 refine S0 ?_
 refine QB (fun f M'=>f=[]∧M'=E) ?_ ?_
 ·refine J0 (R2 @g1 @k7 ?_)
  refine J7 (Jr (fun j f M'=>∃i:Nat,j=A.blocks.length-i∧f=[(13,.slice a A.blocks.length c),(14,.int .i64 (A.blocks.length:Nat)),(15,.int .i64 (i:Nat))]∧i≤A.blocks.length∧M'=E) A.blocks.length ?_ ?_)
  ·refine JK [13,14,15] ?_
   exact⟨E,tR _,0,rfl,rfl,by omega,rfl⟩
  ·rintro j f M' ⟨i,rfl,rfl,hi,rfl⟩
   refine J0 (R0 ?_)
   refine J0 (CC (decide ((i:Int)<(A.blocks.length:Int))) (fun hq=>J3 ?_) (fun hq=>Jn ?_))
   ·have O:=of_decide_eq_true hq
    obtain⟨x,hx⟩:∃x,A.blocks[i]?=some x:=⟨_,qd (by omega)⟩
    obtain⟨b1,o1,ae,af,rfl,g2,c2⟩:=h1.cell hx
    have U:=hs x (qh hx)
    have z0:(0:Int)≤(i:Int):=by omega
    have w1:IntKind.i64.wrap ((i:Int)+1)=((i+1:Nat):Int):=by rw[Xn (by omega) (by omega)];omega
    have hb:JC (str x)=224:=U
    have q2:(((224:Nat):Int) !=224)=false:=rfl
    refine S0 ?_
    refine J0 (J7 (J0 (R6 @z0 @O @and_self @g2 @qf @c2 ?_)))
    refine J0 (R2 @hb @q2 ?_)
    refine CF (J3 ?_)
    refine S0 ?_
    refine R1 @w1 ?_
    refine JK [13,14,15] ?_
    exact⟨_,tR _,A.blocks.length-(i+1),⟨i+1,rfl,rfl,by omega,rfl⟩,by omega⟩
   ·refine S0 ?_
    refine JK [] ?_
    exact⟨_,tR _,rfl⟩
 ·rintro f M2 ⟨rfl,rfl⟩
  refine J0 (R0 ?_)
  refine T0 ?_
  exact⟨_,tR _,Y⟩
theorem acheck_spec(S:List UInt8)(hS:S.length≤140737488355000)(A:Arc)(hok:ArcOk (Sha.headKey S) A)(hl:A.blocks.length≤1000)(M:Mem)(v:Value)(h:StrsRd M v A.blocks):
 ∃N,Abs.Spec qc 21 [.string (str S),.agg (Jq A.head v).toArray] M (fun u M'=>u=.int .i64 0∧M'=M.app N)∧N.all ZK=true:=by
 have⟨a,c,e1,_⟩:=h
 subst e1
 have bx:∀(h:Header) a n c,QO qc 36 (.agg (Jq h (.slice a n c)).toArray)=some (.cells false (J6 qc 36) (Jq h (.slice a n c))):=fun _ _ _ _=>bx_Arc _ rfl
 generalize J6 qc 36=s3 at bx
 have k7:∀(s:Nat)(h:Header) V,cellIn 7 (some (.cells false s (Jq h V)))=some V:=fun _ _ _=>rfl
 have k5:∀(s:Nat)(h:Header) V,cellIn 5 (some (.cells false s (Jq h V)))=some (.string h.root):=fun _ _ _=>rfl
 have O:∀(s:Nat)(h:Header) V,Ju 7 0 (some (.cells false s (Jq h V)))=some (.agg h.cells.toArray):=fun _ _ _=>rfl
 have Y:∀(s:Nat)(h:Header) a n c,Ju 8 0 (some (.cells false s (Jq h (.slice a n c))))=some (.agg (Jq h (.slice a n c)).toArray):=fun _ _ _ _ _=>rfl
 obtain⟨N0,Z⟩:∃N,N=[some (Blk.cells false s3 (Jq A.head (.slice a A.blocks.length c)))]:=⟨_,rfl⟩
 obtain⟨E,U⟩:∃E,E=M.push (.cells false s3 (Jq A.head (.slice a A.blocks.length c))):=⟨_,rfl⟩
 have eM:E=M.app N0:=by
  rw[U,Z]
  conv=>lhs;rw[show M=M.app [] by simp[Mem.app]]
  rw[Vm];rfl
 have o1:∀b x,M.get b=some x→E.get b=some x:=fun b x hx=>by rw[eM];exact Qq M N0 b x hx
 have g1:E.get M.size=some (.cells false s3 (Jq A.head (.slice a A.blocks.length c))):=by rw[U,Mem.get_push_new]
 have h1:=h.same o1
 obtain⟨N1,sh,af⟩:=shape_spec A hok.len (by omega) hok.size E _ h1
 have h2:=h1.same (Qq E N1)
 have g2:=Qq E N1 _ _ g1
 obtain⟨M2,a2⟩:∃M2,M2=E.app N1:=⟨_,rfl⟩
 rw[←a2]at sh h2 g2
 obtain⟨N2,ar,a6⟩:=aroot_exact A.blocks hl (fun x hx=>by rw[hok.size x hx];decide) M2 _ h2
 have I:∀(X:Mem)(P Q:List (Option Blk)),(X.app P).app Q=X.app (P++Q):=fun X P Q=>by simp[Mem.app,List.append_assoc]
 refine⟨N0++N1++N2,?_,by rw[List.all_append,List.all_append,af,a6,Z];rfl⟩
 have eE:M2.app N2=M.app (N0++N1++N2):=by rw[a2,eM,I,I,List.append_assoc]
 have hv:=hverify_at (Sha.headKey S) (by rw[Z0];decide) A.head E
 rw[hok.ver]at hv
 have ah:keysV (str S).data.toList (⟨#[]⟩:ByteArray).data.toList=.agg #[.string (str (Sha.encKey S [])),.string (str (Sha.macKey S [])),.string (str (Sha.headKey S))]:=rfl
 have a8:vField qc 98 (some (.agg #[.string (str (Sha.encKey S [])),.string (str (Sha.macKey S [])),.string (str (Sha.headKey S))])) 2=some (.string (str (Sha.headKey S))):=by rfl
 have a7:=keys_spec (str S) ⟨#[]⟩ (by rw[str_size];omega) (by decide) E
 rw[ah]at a7
 have q0:((0:Int) !=0)=false:=rfl
 have qr:(!UW (str (UG A.blocks)) A.head.root)=false:=by rw[hok.root,beqB_dec];simp
 refine WM Tryz.func21 Tryz.results21 Tryz.ntmps21 fun _=>?_
 refine J0 (R1 @bx ?_)
 rw[←U]
 refine J0 (J0 (D2 5 @g1 @O ?_))
 refine⟨by kernel_rfl,_,a7,?_⟩
 simp only[zZ,reduceIte,yQ,yW,yX,yZ,yJ,yK,yV,zDk,Jc,Jb,J9,J8,Xx,a8,g1,O]at ⊢
 refine K0 (hv) ?_
 refine J0 (R1 @q0 ?_)
 refine CF (J3 ?_)
 refine S0 ?_
 refine J0 (J0 (R2 @g1 @Y ?_))
 refine⟨by kernel_rfl,_,sh,?_⟩
 rintro _ M3 ⟨rfl,rfl⟩
 refine S0 ?_
 refine J0 (R1 @q0 ?_)
 refine CF (J3 ?_)
 refine S0 ?_
 refine J0 (J0 (CW_drawG hmix 6 (by kernel_rfl) (by kernel_rfl) ?_))
 simp only[zZ,reduceIte,yQ,yW,yX,yZ,yJ,yK,yV,zDk,Jc,Jb,J9,J8,Xx,Xh,JA,Q3,Qo,isVal,sGuardedV,Jx,JS,yY,qe,g2,k7]at ⊢
 refine⟨by kernel_rfl,_,N2,ar,a6,?_⟩
 simp only[zZ,reduceIte,yQ,yW,yX,yZ,yJ,yK,yV,zDk,Jc,Jb,J9,J8,Xx,Xh,JA,Q3,Qo,isVal,sGuardedV,Jx,JS,yY,qe,g2,k5,qr]at ⊢
 refine CF (J3 ?_)
 refine S0 ?_
 refine J0 (R0 ?_)
 refine T0 ?_
 exact⟨_,tR _,eE⟩
theorem depot_visible(sec text:List UInt8)(hsec:sec.length≤4000000000000000000)(htext:text.length≤4000000000000000000)(O:List Int)(hOw:∀x∈O, -9223372036854775808≤x∧x≤9223372036854775807)(hlO:O.length≤4000000000000000000)(fu bt:Int)(M:Mem)(vO:Value)(rO:NumsRd M vO O):
 Abs.Spec qc 4 [.string (str sec),.string (str text),vO,.int .i64 fu,.int .i64 bt] M fun u _=>u=.bool true:=by
 obtain⟨S,hS⟩:∃S,S=sec.take 100:=⟨_,rfl⟩
 have fU:S.length≤100:=by rw[hS,List.length_take];omega
 obtain⟨key,aM⟩:∃key,key=Sha.headKey S:=⟨_,rfl⟩
 have dC:key.length≤1000000:=by rw[aM,Z0];decide
 obtain⟨A,hA⟩:∃A,A=Vl S saltL ((1+0:Nat):Int) (ZD text) 1000:=⟨_,rfl⟩
 have dO:S.take 100=S:=by rw[hS,List.take_take];simp
 have bl:Up S [text]=[A]:=by unfold Up;rw[dO,hA];rfl
 have dE:=made_ok (sec:=S) (T:=[text]) (a:=A) (by rw[bl];simp)
 rw[dO,←aM]at dE
 obtain⟨a6,_,_,fy⟩:=dE
 have aR:A.head.id=1:=by rw[hA,arcOf_id];rfl
 have ar:1≤A.blocks.length:=by
  have h1:=Vq a6.may
  have h2:=a6.len
  omega
 obtain⟨n,hn⟩:∃n,n=A.blocks.length:=⟨_,rfl⟩
 have ak:∀b,ptr b=.pointer (some ⟨b,0,none⟩):=fun _=>rfl
 have fm:∀b,dp b=.pointer (some ⟨b,0,none⟩):=fun _=>rfl
 have q0:((0:Int) !=0)=false:=rfl
 have j0:∀s d p e q L,cellIn 0 (some (.cells false s (Qt d p e q S L)))=some d:=fun _ _ _ _ _ _=>rfl
 have j1:∀s d p e q L,cellIn 1 (some (.cells false s (Qt d p e q S L)))=some p:=fun _ _ _ _ _ _=>rfl
 have j4:∀s d p e q L,cellIn 4 (some (.cells false s (Qt d p e q S L)))=some (.string (str S)):=fun _ _ _ _ _ _=>rfl
 have j5:∀s d p e q L,cellIn 5 (some (.cells false s (Qt d p e q S L)))=some L:=fun _ _ _ _ _ _=>rfl
 have aP:Qa qc 36=some (.cells false (J6 qc 36) (Jq noHead (.slice none 0 0))):=al_Arc
 generalize J6 qc 36=s3 at aP
 have ba:∀(s:Nat)(h:Header) a n c,Ju 8 0 (some (.cells false s (Jq h (.slice a n c))))=some (.agg (Jq h (.slice a n c)).toArray):=fun _ _ _ _ _=>rfl
 have co:∀(s:Nat)(h:Header) V,Ju 7 0 (some (.cells false s (Jq h V)))=some (.agg h.cells.toArray):=fun _ _ _=>rfl
 have k7:∀(s:Nat)(h:Header) V,cellIn 7 (some (.cells false s (Jq h V)))=some V:=fun _ _ _=>rfl
 have aD:∀(h:Header) V,(Value.agg (Jq h V).toArray).cells.toList=Jq h V:=fun _ _=>rfl
 have au:∀(M0:Mem)(b:Nat)(x y:Header) V a n c,Ji 8 M0 b 0 (Jq y (.slice a n c)) (some (.cells false s3 (Jq x V)))=some (M0.set b (some (.cells false s3 (Jq y (.slice a n c))))):=fun _ _ _ _ _ _ _ _=>rfl
 have nw:=Vf text
 obtain⟨M1,cx⟩:∃M1,M1=M.push (.cells false 1 (encS text)):=⟨_,rfl⟩
 have dD:More M M1:=by rw[cx];exact More.push _ _
 have rd:StrsRd M1 (.slice (some ⟨M.size,0,none⟩) 1 1) [text]:=⟨_,_,rfl,qp _,(fun e=>by cases e),fun i x hx=>by
  obtain rfl:i=0:=by
   cases i with
   |zero=>rfl
   |succ i=>cases hx
  cases hx
  exact⟨M.size,0,false,_,rfl,by rw[cx,Mem.get_push_new],rfl⟩⟩
 refine WM Tryz.func4 Tryz.results4 Tryz.ntmps4 fun _=>?_
 refine J0 (R0 ?_)
 refine J0 (R1 @nw ?_)
 rw[←cx]
 refine⟨by kernel_rfl,_,built_spec 40 (by decide) (by decide) sec hsec [text] (by simp) (by intro t ht;simp at ht;subst ht;exact htext) M1 _ rd,?_⟩
 rintro _ M2 ⟨H,p,q,g,P0,VL,LA,Mk,rfl,bV,cS,cb,o1,o2,fA,zH,zp,zq,zg,zP,z2⟩
 rw[←hS]at bV cS
 rw[bl]at cS
 obtain⟨x,rfl,hx⟩:∃x,LA=[x]∧x.1=A:=by
  match LA,cS with
  | [x],h=>exact⟨x,rfl,by simpa using h⟩
 obtain⟨E,xv⟩:=x
 obtain rfl:E=A:=hx
 rcases cb.1 with⟨h0,_⟩|⟨_,gA,fR,rfl,cU⟩
 ·cases h0
 have da:=cb.2 _ (List.mem_singleton.2 rfl)
 simp only at da
 rcases da with⟨h0,_⟩|⟨_,gB,fD,rfl,dX⟩
 ·rw[h0]at ar;simp at ar
 rw[←hn]at cU
 have lA:=Mem.get_lt cU
 have lB:=Mem.get_lt dX
 have eP:M2.get gA=some (.cells false 8 (Jq E.head (.slice (some ⟨gB,0,none⟩) n n))):=by
  rw[o2 _ _ cU]
  simp only[List.flatMap_cons,List.flatMap_nil,qq]
  rfl
 have f0:=o2 _ _ dX
 obtain⟨sH,e0,Q0,hH,_⟩:=bV.row
 have an:=bV.dep
 rw[←aM]at an
 have aT:=bV.ne
 obtain⟨_,_,_,gP,_⟩:=an.row
 obtain⟨_,gp⟩:=an.dsk.row
 have lP:=Mem.get_lt gP
 have lp:=Mem.get_lt gp
 have lq:=Mem.get_lt an.dsk.kv
 have lg:=Mem.get_lt an.dsk.old
 have gs:=dD.size
 have qn:(((1:Nat):Int) !=1)=false:=rfl
 have z0:(0:Int)≤0:=by omega
 have z1:(0:Int)<((1:Nat):Int):=by omega
 have ea:(0:Int)<1:=by omega
 have ey:(0:Int).toNat=0:=rfl
 refine S1 @ak ?_
 refine J0 (J0 (R5 @hp_eql @hH @j5 @qk.{0} @qn ?_))
 refine CF (J3 ?_)
 refine S0 ?_
 obtain⟨I,cl⟩:∃b,b=M2.size:=⟨_,rfl⟩
 obtain⟨M3,c6⟩:∃M3,M3=(M2.push (.cells false s3 (Jq noHead (.slice none 0 0)))).set M2.size (some (.cells false s3 (Jq E.head (.slice (some ⟨gB,0,none⟩) n n)))):=⟨_,rfl⟩
 refine J0 (J1 ?_)
 simp only[zZ,reduceIte,yQ,yW,yX,yZ,yJ,yK,yV,zDk,Jc,Jb,J9,J8,Xx,hH,j5,qk,z0,z1,ea,ey,and_self,Nat.zero_mul,eP,ba,aP,Mem.get_push_new,aD,au]
 rw[←c6,←cl]
 have z3:M3.size=M2.size+1:=by rw[c6,Mem.size_set,Mem.size_push]
 have br:M3.get I=some (.cells false s3 (Jq E.head (.slice (some ⟨gB,0,none⟩) n n))):=by rw[c6,cl];exact Mem.get_set_same (Mem.get_push_new _ _) _
 have c5:∀b x,M2.get b=some x→M3.get b=some x:=fun b x hx=>by
  have:=Mem.get_lt hx
  rw[c6,Mem.get_set_ne (by omega),Mem.get_push_old this];exact hx
 have fK:=lP
 have aS:=c5 _ _ hH
 have bR:=c5 _ _ f0
 have bI:=an.same c5
 refine J0 (R3 @ak @aS @j0 ?_)
 refine⟨by kernel_rfl,_,fuse_spec M3 p q g (JQ 40) bI.dsk _ (fuse31_le fu),?_⟩
 rintro _ M4 ⟨rfl,cE,c7,fB⟩
 obtain⟨d4,bn⟩:∃x,x=(JQ 40).setFuse (bits .and .i64 fu 31):=⟨_,rfl⟩
 have cE:DskAt M4 p q g d4:=by rw[bn];exact cE
 have dt:DepAt M4 P0 p q g d4 (Dp0 key 1 0):=bI.disk cE (by rw[bn,fuse_old]) (fun b x hb hx=>c7 b x (by simp at hb ⊢;exact hb.1) hx)
 have ag:Opn key E 1 d4 (Dp0 key 1 0):=by rw[bn];exact(opn_new key E 40 (by decide) (by decide)).fused (fuse31_le fu)
 have e9:=c7 H _ (by simp at aT ⊢;omega) aS
 have eg:=c7 I _ (by simp;omega) br
 refine S0 ?_
 have eA:13≤d4.old.length:=by have:=ag.2.2.1.n;omega
 refine J0 (D5 6 @e9 @j1 @ak @eg @co ?_)
 refine⟨by kernel_rfl,_,begin_spec P0 p q g d4 (Dp0 key 1 0) E.head M4 dt dC eA,?_⟩
 rintro _ M5 ⟨rfl,bH,e3,gc⟩
 have az:E.blocks.length≤6:=by omega
 have aY:(Dep.begin d4 (Dp0 key 1 0) E.head).2.2=0∧Wri key E 1 0 (QU E) (Dep.begin d4 (Dp0 key 1 0) E.head).1 (Dep.begin d4 (Dp0 key 1 0) E.head).2.1∨
  (Dep.begin d4 (Dp0 key 1 0) E.head).2.2=7∧Hist E (Dep.begin d4 (Dp0 key 1 0) E.head).1 1 (fun _=>True):=by
  rcases ag.2.2.2 with⟨t1,t5,_⟩|⟨G,ep,hD,_⟩|⟨ep,hD⟩
  ·rcases wri_begin0 (ep:=1) a6 az ag.2.2.1 ag.1 t1 t5 ag.2.1 with⟨x1,x2,_⟩|⟨_,x1,x2⟩
   ·exact .inl ⟨x1,x2⟩
   ·exact .inr ⟨x1,x2⟩
  ·have:=congrArg Dep.opn hD;simp[Dp0,Zm]at this
  ·have:=congrArg Dep.kept hD;simp[Dp0,Dp2]at this
 generalize Dep.begin d4 (Dp0 key 1 0) E.head=X5 at bH aY
 obtain⟨d5,D5,e5⟩:=X5
 simp only at bH aY
 have fl:(QU E).length=n:=by have:=Kr a6;have:=a6.len;omega
 obtain⟨ed,dl,ez,en⟩:∃b:Bool,(e5==0)=b∧(b=true→Wri key E 1 0 (QU E) d5 D5)∧(b=false→Hist E d5 1 fun _=>True):=by
  rcases aY with⟨rfl,h2⟩|⟨rfl,h2⟩
  ·exact⟨true,rfl,fun _=>h2,fun h=>by cases h⟩
  ·exact⟨false,rfl,(fun h=>by cases h),fun _=>h2⟩
 refine S1 @dl ?_
 obtain⟨aO,cO,rfl⟩:=rO.len
 have f1:∀b x,M.get b=some x→M3.get b=some x:=fun b x hx=>c5 b x (o2 b x (o1 b x (dD.get b x hx)))
 have o5:∀b x,b∉ [P0,p,q,g]→M3.get b=some x→M5.get b=some x:=fun b x hb hx=>e3 b x hb (c7 b x (by simp at hb ⊢;omega) hx)
 have eN:0<O.length→∃b ro,aO=some ⟨b,0,none⟩∧M.get b=some (.cells ro 1 (O.flatMap encN))∧b<M.size:=fun h0=>by
  obtain⟨b,ro,h1,h2⟩:=rO.at h0
  exact⟨b,ro,h1,h2,Mem.get_lt h2⟩
 refine QB (fun f M'=>∃(ok:Bool)(G:List Bool)(d:Dsk)(D:Dep),f=[(4,.int .i64 bt),(11,.pointer (some ⟨H,0,none⟩)),(12,.pointer (some ⟨I,0,none⟩)),(13,.bool ok)]∧G.length=n∧
  (ok=true→Wri key E 1 20 G d D)∧(ok=false→Hist E d 1 fun _=>True)∧DepAt M' P0 p q g d D∧M3.size≤M'.size∧(∀b x,b∉ [P0,p,q,g]→M3.get b=some x→M'.get b=some x)) ?_ ?_
 ·refine J0 (R0 ?_)
  refine J7 (Jr (fun j f M'=>∃(i:Nat)(ok:Bool)(G:List Bool)(d:Dsk)(D:Dep),j=20-i∧f=[(2,.slice aO O.length cO),(4,.int .i64 bt),(11,.pointer (some ⟨H,0,none⟩)),(12,.pointer (some ⟨I,0,none⟩)),(13,.bool ok),(14,.int .i64 (i:Nat))]∧i≤20∧G.length=n∧
   (ok=true→Wri key E 1 (i:Nat) G d D)∧(ok=false→Hist E d 1 fun _=>True)∧DepAt M' P0 p q g d D∧M3.size≤M'.size∧(∀b x,b∉ [P0,p,q,g]→M3.get b=some x→M'.get b=some x)) 20 ?_ ?_)
  ·refine JK [2,4,11,12,13,14] ?_
   exact⟨M5,tR _,0,ed,QU E,d5,D5,rfl,rfl,by omega,fl,ez,en,bH,by omega,o5⟩
  ·rintro j f M6 ⟨i,bf,G6,d6,D6,rfl,rfl,fo,aW,bZ,bG,ao,bA,o6⟩
   have bx:bf=true→Wri key E 1 20 G6 d6 D6:=fun h=>by
    obtain⟨ep,st,Gp,h1,h2,h3,h4,h5⟩:=bZ h
    exact⟨ep,st,Gp,h1,h2,h3,h4,by omega⟩
   cases b1:decide ((i:Int)<(O.length:Int))
   case false=>
    refine J0 (J0 (R1 @b1 ?_))
    refine CF (Jn ?_)
    refine S0 ?_
    refine JK [4,11,12,13] ?_
    exact⟨M6,tR _,bf,G6,d6,D6,rfl,aW,bx,bG,ao,bA,o6⟩
   cases b2:decide ((i:Int)<20)
   case false=>
    refine J0 (J0 (R2 @b1 @b2 ?_))
    refine CF (Jn ?_)
    refine S0 ?_
    refine JK [4,11,12,13] ?_
    exact⟨M6,tR _,bf,G6,d6,D6,rfl,aW,bx,bG,ao,bA,o6⟩
   cases bf
   case false=>
    refine J0 (J0 (R2 @b1 @b2 ?_))
    refine CF (Jn ?_)
    refine S0 ?_
    refine JK [4,11,12,13] ?_
    exact⟨M6,tR _,false,G6,d6,D6,rfl,aW,bx,bG,ao,bA,o6⟩
   refine J0 (J0 (R2 @b1 @b2 ?_))
   refine CT (J3 ?_)
   have p1:=of_decide_eq_true b1
   have p2:=of_decide_eq_true b2
   obtain⟨bO,gz,rfl,eu,fP⟩:=eN (by omega)
   obtain⟨od,db⟩:∃x,O[i]?=some x:=⟨_,qd (by omega)⟩
   have e4:(O.flatMap encN)[i]?=some (.int .i64 od):=cell_one (f:=Value.int .i64) db false 1
   have i0:(0:Int)≤(i:Int):=by omega
   have f9:=o6 bO _ (by simp;omega) (f1 _ _ eu)
   have dr:=o6 I _ (by simp;omega) br
   have eR:=o6 gB _ (by simp;omega) bR
   have ek:=o6 H _ aT aS
   have w2:IntKind.i64.wrap ((i:Int)+1)=((i+1:Nat):Int):=by rw[Xn (by omega) (by omega)];omega
   have nz:(((n:Nat):Int)=0)=False:=eq_false (by omega)
   obtain⟨k,hk,v1,v2,v3,v4⟩:=pick_mod od n (by omega) (by omega) (hOw od (qh db))
   obtain⟨tb,ac⟩:∃x,E.blocks[k]?=some x:=⟨_,qd (by omega)⟩
   have dW:tb.length=224:=a6.size tb (qh ac)
   have eX:(0:Int)≤(k:Int):=by omega
   have kn:(k:Int)<(n:Int):=by omega
   have eQ:(E.blocks.flatMap encS)[k]?=some (.string (str tb)):=cell_one (f:=fun s=>Value.string (str s)) ac false 1
   have hw:=bZ rfl
   have dS:0≤D6.staged∧D6.staged≤20:=by
    obtain⟨ep,st,Gp,rfl,_,_,h4,h5⟩:=hw
    exact⟨h4,by show st≤20;omega⟩
   have aa:=wri_stage a6 az hw ac
   rw[aR]at aa
   refine QB (fun f M'=>∃(ok:Bool)(G:List Bool)(d:Dsk)(D:Dep),f=[(2,.slice (some ⟨bO,0,none⟩) O.length cO),(4,.int .i64 bt),(11,.pointer (some ⟨H,0,none⟩)),(12,.pointer (some ⟨I,0,none⟩)),(13,.bool ok),(14,.int .i64 (i:Nat))]∧G.length=n∧
    (ok=true→Wri key E 1 ((i+1:Nat):Int) G d D)∧(ok=false→Hist E d 1 fun _=>True)∧DepAt M' P0 p q g d D∧M3.size≤M'.size∧(∀b x,b∉ [P0,p,q,g]→M3.get b=some x→M'.get b=some x)) ?_ ?_
   ·refine J7 ?_
    refine J0 (QG hmix 15 (by kernel_rfl) (by kernel_rfl) ?_)
    simp only[zZ,reduceIte,yQ,yW,yX,yZ,yJ,yK,yV,zDk,Jc,Jb,J9,J8,Xx,i0,p1,and_self,f9,qf,e4,dr,k7,nz,v1,v2,v3,v4]
    refine QG hmix 10 (by kernel_rfl) (by kernel_rfl) ?_
    simp only[zZ,reduceIte,yQ,yW,yX,yZ,yJ,yK,yV,zDk,Jc,Jb,J9,J8,Xx,ek,j1,ak,dr,k7,eX,kn,and_self,eR,qf,eQ]
    refine⟨by kernel_rfl,_,Ka P0 p q g d6 D6 1 (k:Nat) tb (by omega) (by omega) M6 ao,?_⟩
    rintro _ M7 ⟨rfl,Z,ei,fH⟩
    generalize Dep.stage d6 D6 1 (k:Nat) tb=X7 at Z aa
    obtain⟨d7,D7,e7⟩:=X7
    simp only at Z aa
    obtain⟨aK,G7,dg,cA,aJ,aH⟩:∃(b:Bool)(G:List Bool),(e7==0)=b∧G.length=n∧(b=true→Wri key E 1 ((i+1:Nat):Int) G d7 D7)∧(b=false→Hist E d7 1 fun _=>True):=by
     rcases aa with⟨rfl,h2,_⟩|⟨_,rfl,h2⟩
     ·exact⟨true,G6.set k true,rfl,by rw[List.length_set];exact aW,fun _=>by rw[Int.natCast_add];exact h2,fun h=>by cases h⟩
     ·exact⟨false,G6,rfl,aW,(fun h=>by cases h),fun _=>h2⟩
    refine S1 @dg ?_
    refine JK [2,4,11,12,13,14] ?_
    exact⟨M7,tR _,aK,G7,d7,D7,rfl,cA,aJ,aH,Z,by omega,fun b x hb hx=>ei b x hb (o6 b x hb hx)⟩
   ·rintro f M7 ⟨aK,G7,d7,D7,rfl,cA,aJ,aH,Z,be,o7⟩
    refine R1 @w2 ?_
    refine JK [2,4,11,12,13,14] ?_
    exact⟨M7,tR _,20-(i+1),⟨i+1,aK,G7,d7,D7,rfl,rfl,by omega,cA,aJ,aH,Z,be,o7⟩,by omega⟩
 ·rintro f M6 ⟨bf,G6,d6,D6,rfl,aW,bZ,bG,ao,bA,o6⟩
  refine QB (fun f M'=>∃(ok:Bool)(d:Dsk)(D:Dep),f=[(4,.int .i64 bt),(11,.pointer (some ⟨H,0,none⟩)),(12,.pointer (some ⟨I,0,none⟩)),(13,.bool ok)]∧
   (ok=true→Wri key E 1 30 (qi E.blocks.length true) d D)∧(ok=false→Hist E d 1 fun _=>True)∧DepAt M' P0 p q g d D∧M3.size≤M'.size∧(∀b x,b∉ [P0,p,q,g]→M3.get b=some x→M'.get b=some x)) ?_ ?_
  ·refine J0 (R0 ?_)
   refine J7 (Jr (fun j f M'=>∃(i:Nat)(ok:Bool)(G:List Bool)(d:Dsk)(D:Dep),j=n-i∧f=[(4,.int .i64 bt),(11,.pointer (some ⟨H,0,none⟩)),(12,.pointer (some ⟨I,0,none⟩)),(13,.bool ok),(16,.int .i64 (i:Nat))]∧i≤n∧G.length=n∧(∀j,j<i→ok=true→G[j]?=some true)∧
    (ok=true→Wri key E 1 (20+(i:Nat):Int) G d D)∧(ok=false→Hist E d 1 fun _=>True)∧DepAt M' P0 p q g d D∧M3.size≤M'.size∧(∀b x,b∉ [P0,p,q,g]→M3.get b=some x→M'.get b=some x)) n ?_ ?_)
   ·refine JK [4,11,12,13,16] ?_
    exact⟨M6,tR _,0,bf,G6,d6,D6,rfl,rfl,by omega,aW,(fun j hj=>by omega),(fun h=>by have:=bZ h;simpa using this),bG,ao,bA,o6⟩
   ·rintro j f M7 ⟨i,aK,G7,d7,D7,rfl,rfl,hi,cm,ah,aJ,aH,Z,be,o7⟩
    have bU:=o7 I _ (by simp;omega) br
    have eo:=o7 gB _ (by simp;omega) bR
    have cH:=o7 H _ aT aS
    cases b1:decide ((i:Int)<(n:Int))
    case false=>
     refine J0 (J0 (R3 @bU @k7 @b1 ?_))
     refine CF (Jn ?_)
     refine S0 ?_
     refine JK [4,11,12,13] ?_
     have eS:i=n:=by have:=of_decide_eq_false b1;omega
     exact⟨M7,tR _,aK,d7,D7,rfl,(fun h=>by
      obtain⟨ep,st,Gp,h1,h2,h3,h4,h5⟩:=aJ h
      have hG:G7=qi E.blocks.length true:=by
       apply List.ext_getElem?
       intro t
       by_cases ht:t<n
       ·rw[ah t (by omega) h,List.getElem?_replicate,if_pos (by omega)]
       ·rw[qm (by omega),qm (by simp;omega)]
      rw[←hG]
      exact⟨ep,st,Gp,h1,h2,h3,h4,by omega⟩),aH,Z,be,o7⟩
    cases aK
    case false=>
     refine J0 (J0 (R3 @bU @k7 @b1 ?_))
     refine CF (Jn ?_)
     refine S0 ?_
     refine JK [4,11,12,13] ?_
     exact⟨M7,tR _,false,d7,D7,rfl,(fun h=>by cases h),aH,Z,be,o7⟩
    refine J0 (J0 (R3 @bU @k7 @b1 ?_))
    refine CT (J3 ?_)
    have p1:=of_decide_eq_true b1
    have i0:(0:Int)≤(i:Int):=by omega
    have w2:IntKind.i64.wrap ((i:Int)+1)=((i+1:Nat):Int):=by rw[Xn (by omega) (by omega)];omega
    obtain⟨tb,ac⟩:∃x,E.blocks[i]?=some x:=⟨_,qd (by omega)⟩
    have dW:tb.length=224:=a6.size tb (qh ac)
    have eK:(E.blocks.flatMap encS)[i]?=some (.string (str tb)):=cell_one (f:=fun s=>Value.string (str s)) ac false 1
    have hw:=aJ rfl
    have dS:0≤D7.staged∧D7.staged≤30:=by
     obtain⟨ep,st,Gp,rfl,_,_,h4,h5⟩:=hw
     exact⟨h4,by show st≤30;omega⟩
    have aa:=wri_stage a6 az hw ac
    rw[aR]at aa
    refine QB (fun f M'=>∃(ok:Bool)(G:List Bool)(d:Dsk)(D:Dep),f=[(4,.int .i64 bt),(11,.pointer (some ⟨H,0,none⟩)),(12,.pointer (some ⟨I,0,none⟩)),(13,.bool ok),(16,.int .i64 (i:Nat))]∧G.length=n∧(∀j,j<i+1→ok=true→G[j]?=some true)∧
     (ok=true→Wri key E 1 (20+(i+1:Nat):Int) G d D)∧(ok=false→Hist E d 1 fun _=>True)∧DepAt M' P0 p q g d D∧M3.size≤M'.size∧(∀b x,b∉ [P0,p,q,g]→M3.get b=some x→M'.get b=some x)) ?_ ?_
    ·refine J7 ?_
     refine QG hmix 10 (by kernel_rfl) (by kernel_rfl) ?_
     simp only[zZ,reduceIte,yQ,yW,yX,yZ,yJ,yK,yV,zDk,Jc,Jb,J9,J8,Xx,cH,j1,ak,bU,k7,i0,p1,and_self,eo,qf,eK]
     refine⟨by kernel_rfl,_,Ka P0 p q g d7 D7 1 (i:Nat) tb (by omega) (by omega) M7 Z,?_⟩
     rintro _ M8 ⟨rfl,a7,cy,eB⟩
     generalize Dep.stage d7 D7 1 (i:Nat) tb=X8 at a7 aa
     obtain⟨d8,D8,e8⟩:=X8
     simp only at a7 aa
     obtain⟨cr,G8,dk,cu,aB,cI,cR⟩:∃(b:Bool)(G:List Bool),(e8==0)=b∧G.length=n∧(∀j,j<i+1→b=true→G[j]?=some true)∧(b=true→Wri key E 1 (20+(i+1:Nat):Int) G d8 D8)∧(b=false→Hist E d8 1 fun _=>True):=by
      rcases aa with⟨rfl,h2,_⟩|⟨_,rfl,h2⟩
      ·refine⟨true,G7.set i true,rfl,by rw[List.length_set];exact cm,fun j hj _=>?_,fun _=>by rw[Int.natCast_add,←Int.add_assoc];exact h2,fun h=>by cases h⟩
       rw[List.getElem?_set]
       by_cases e:i=j
       ·rw[if_pos e,if_pos (by omega)]
       ·rw[if_neg e];exact ah j (by omega) rfl
      ·exact⟨false,G7,rfl,cm,(fun _ _ h=>by cases h),(fun h=>by cases h),fun _=>h2⟩
     refine S1 @dk ?_
     refine JK [4,11,12,13,16] ?_
     exact⟨M8,tR _,cr,G8,d8,D8,rfl,cu,aB,cI,cR,a7,by omega,fun b x hb hx=>cy b x hb (o7 b x hb hx)⟩
    ·rintro f M8 ⟨cr,G8,d8,D8,rfl,cu,aB,cI,cR,a7,d0,o8⟩
     refine R1 @w2 ?_
     refine JK [4,11,12,13,16] ?_
     exact⟨M8,tR _,n-(i+1),⟨i+1,cr,G8,d8,D8,rfl,rfl,by omega,cu,aB,cI,cR,a7,d0,o8⟩,by omega⟩
  ·rintro f M7 ⟨aK,d7,D7,rfl,aJ,aH,Z,be,o7⟩
   have cH:=o7 H _ aT aS
   refine J0 (R0 ?_)
   refine QB (fun f M'=>∃(er:Int)(d:Dsk)(D:Dep),f=[(4,.int .i64 bt),(11,.pointer (some ⟨H,0,none⟩)),(12,.pointer (some ⟨I,0,none⟩)),(17,.int .i64 er)]∧
    Hist E d 1 (fun _=>True)∧(er=0→Laid key E 1 d)∧DepAt M' P0 p q g d D∧M3.size≤M'.size∧(∀b x,b∉ [P0,p,q,g]→M3.get b=some x→M'.get b=some x)) ?_ ?_
   ·cases aK
    case false=>
     refine J0 (R0 ?_)
     refine CF (J3 ?_)
     refine S0 ?_
     refine JK [4,11,12,17] ?_
     exact⟨M7,tR _,7,d7,D7,rfl,aH rfl,(fun h=>by cases h),Z,be,o7⟩
    refine J0 (R0 ?_)
    refine CT (J1 ?_)
    have av:=wri_commit a6 az rfl (aJ rfl)
    rw[aR]at av
    refine S3 @cH @j1 @ak ?_
    refine⟨by kernel_rfl,_,commit_spec P0 p q g d7 D7 1 M7 Z,?_⟩
    rintro _ M8 ⟨rfl,a7,cy,eB⟩
    generalize Dep.commit d7 D7 1=X8 at a7 av
    obtain⟨d8,D8,e8⟩:=X8
    simp only at a7 av
    refine S0 ?_
    refine JK [4,11,12,17] ?_
    have hr:Hist E d8 1 (fun _=>True)∧(e8=0→Laid key E 1 d8):=by
     rcases av with⟨rfl,h2,_⟩|⟨_,rfl,h2⟩
     ·exact⟨h2.hist,fun _=>h2⟩
     ·exact⟨h2,fun h=>by cases h⟩
    exact⟨M8,tR _,e8,d8,D8,rfl,hr.1,hr.2,a7,by omega,fun b x hb hx=>cy b x hb (o7 b x hb hx)⟩
   ·rintro f M8 ⟨e8,d8,D8,rfl,cN,bT,a7,d0,o8⟩
    have dK:=o8 H _ aT aS
    refine J0 (R3 @dK @j0 @ak ?_)
    refine⟨by kernel_rfl,_,crash_spec M8 p q g d8 a7.dsk bt,?_⟩
    rintro _ M9 ⟨rfl,ew,bY,gm⟩
    have eT:=bY H _ (by simp at aT ⊢;omega) dK
    obtain⟨aZ,aF,eG,eI,eJ,gw,cT⟩:=vis_open a6 az cN (by omega) bt
    have os:=open_spec M9 p q g (d8.crash bt) ew (str S) (by rw[str_size];omega)
    rw[show(str S).data.toList=S from rfl,←aM,eG]at os
    refine S0 ?_
    refine J0 (CW_drawnG hmix [(8,9),(13,14)] (by kernel_rfl) ?_)
    simp only[zZ,reduceIte,yQ,yW,yX,yZ,yJ,yK,yV,zDk,Jc,Jb,J9,J8,Xx,Xh,JA,Q3,Qo,isVal,sGuardedV,Jx,JS,yY,qe,ak,eT,j0,j4]
    refine⟨by kernel_rfl,_,os,?_⟩
    rintro _ bg ⟨v,rfl,ct,di,fi⟩
    obtain⟨P',rfl,fI,aX⟩:=ct
    simp only[zZ,reduceIte,yQ,yW,yX,yZ,yJ,yK,yV,zDk,Jc,Jb,J9,J8,Xx,Xh,JA,Q3,Qo,isVal,sGuardedV,Jx,JS,yY,qe]
    refine J0 (J0 (R2 @q0 @pp_eql ?_))
    refine CF (J3 ?_)
    refine S0 ?_
    have cB:∀b x,b∉ [P0,p,q,g]→M3.get b=some x→bg.get b=some x:=fun b x hb hx=>di b x (by simp at hb ⊢;omega) (bY b x (by simp at hb ⊢;omega) (o8 b x hb hx))
    have c9:=cB I _ (by simp;omega) br
    have cf:=cB gB _ (by simp;omega) bR
    have dv:=cB H _ aT aS
    have rs:=dread_spec P' p q g aZ (some aF) _ 1 bg ⟨rfl,aX⟩
    have dw:Kd aZ (some aF) 1=Dep.read aZ aF 1:=rfl
    rw[dw]at rs
    rcases cT with h2|⟨eY,dq,eZ,de⟩
    ·have hr:=has2_read a6 az h2
     rw[aR]at hr
     rw[hr]at rs
     refine J0 (R0 ?_)
     refine⟨by kernel_rfl,_,rs,?_⟩
     rintro _ aQ ⟨V,rfl,hV,bm⟩
     obtain⟨aV,cV,aj⟩:=hV.len
     have aj:V=.slice aV E.blocks.length cV:=aj
     subst aj
     refine S4 @aP @Mem.get_push_new @aD @au ?_
     obtain⟨eM,c8⟩:∃b,b=aQ.size:=⟨_,rfl⟩
     obtain⟨Y,ap⟩:∃Y,Y=(aQ.push (.cells false s3 (Jq noHead (.slice none 0 0)))).set aQ.size (some (.cells false s3 (Jq E.head (.slice aV E.blocks.length cV)))):=⟨_,rfl⟩
     rw[←ap,←c8]
     have cF:Y.get eM=some (.cells false s3 (Jq E.head (.slice aV E.blocks.length cV))):=by rw[ap,c8];exact Mem.get_set_same (Mem.get_push_new _ _) _
     have aw:∀b x,aQ.get b=some x→Y.get b=some x:=fun b x hx=>by
      have:=Mem.get_lt hx
      rw[ap,Mem.get_set_ne (by omega),Mem.get_push_old this];exact hx
     have a8:∀b x,bg.get b=some x→Y.get b=some x:=fun b x hx=>aw b x (bm.get b x hx)
     have aC:=a8 _ _ c9
     have bw:=a8 _ _ cf
     have bB:=a8 _ _ dv
     have bz:StrsRd Y (.slice (some ⟨gB,0,none⟩) n n) E.blocks:=OwnL.strs (k:=0) (.inr ⟨(fun e=>by rw[e]at ar;simp at ar),gB,Nat.zero_le _,by rw[hn],bw⟩)
     have bb:StrsRd Y (.slice aV E.blocks.length cV) E.blocks:=(OwnL.strs hV).same aw
     obtain⟨N1,sm,dj⟩:=asame_spec E E (by omega) (by omega) Y _ _ bz bb
     rw[show(sameH E.head E.head&&decide (E.blocks=E.blocks))=true by rw[sameH_self];simp]at sm
     obtain⟨N2,ck,fJ⟩:=acheck_spec S (by omega) E (by rw[←aM];exact a6) (by omega) (Y.app N1) _ (bb.same (Qq Y N1))
     have ae:DepAt ((Y.app N1).app N2) P' p q g aZ aF:=aX.same fun b x hx=>Qq _ _ b x (Qq _ _ b x (a8 b x hx))
     have fh:=Qq Y N1 _ _ bB
     have eh:=Qq Y N1 _ _ cF
     have hu:aF.underL=[]:=by obtain⟨⟨ep,st,rfl⟩,_⟩:=h2;rfl
     have bW:((0:Int)==0)=true:=rfl
     have q9:(((0:Nat):Int)==0)=true:=rfl
     cases he:(e8==0)
     all_goals
      refine J0 (J0 (R2 @he @q0 ?_))
      refine CF (J3 ?_)
      refine S0 ?_
      refine J0 (J0 (R1 @bW ?_))
      refine CT (J0 (CW_drawG hmix 9 (by kernel_rfl) (by kernel_rfl) ?_))
      simp only[zZ,reduceIte,yQ,yW,yX,yZ,yJ,yK,yV,zDk,Jc,Jb,J9,J8,Xx,Xh,JA,Q3,Qo,isVal,sGuardedV,Jx,JS,yY,qe,aC,ba,cF,bB,ak,j4]at ⊢
      refine⟨by kernel_rfl,_,N1,sm,dj,?_⟩
      simp only[zZ,reduceIte,yQ,yW,yX,yZ,yJ,yK,yV,zDk,Jc,Jb,J9,J8,Xx,Xh,JA,Q3,Qo,isVal,sGuardedV,Jx,JS,yY,qe,aC,ba,cF,bB,ak,j4]at ⊢
      refine⟨by kernel_rfl,_,ck,?_⟩
      rintro _ aI ⟨rfl,rfl⟩
      simp only[zZ,reduceIte,yQ,yW,yX,yZ,yJ,yK,yV,zDk,Jc,Jb,J9,J8,Xx,Xh,JA,Q3,Qo,isVal,sGuardedV,Jx,JS,yY,qe,bW]at ⊢
      refine⟨by kernel_rfl,_,under_spec P' p q g aZ aF _ ae,?_⟩
      rintro V2 bc ⟨dh,fq⟩
      rw[hu]at dh
      obtain⟨a2,c2,rfl⟩:=hdrs_len dh
      simp only[zZ,reduceIte,yQ,yW,yX,yZ,yJ,yK,yV,zDk,Jc,Jb,J9,J8,Xx,Xh,JA,Q3,Qo,isVal,sGuardedV,Jx,JS,yY,qe,List.length_nil,q9]at ⊢
      refine⟨by kernel_rfl,_,awake25_spec _,?_⟩
      rintro _ ay ⟨rfl,_⟩
      simp only[zZ,reduceIte,yQ,yW,yX,yZ,yJ,yK,yV,zDk,Jc,Jb,J9,J8,Xx,Xh,JA,Q3,Qo,isVal,sGuardedV,Jx,JS,yY,qe]at ⊢
      refine T0 ?_
      first|exact⟨_,tR _,rfl⟩|exact⟨_,tR _⟩|exact⟨_,tR _,rfl,rfl⟩
    ·have dd:(e8==0)=false:=by
      cases h:(e8==0)with
      |false=>rfl
      |true=>exact absurd (bT (by simpa using h)) eY
     rw[aR]at dq
     rw[dq]at rs
     refine J0 (R0 ?_)
     refine⟨by kernel_rfl,_,rs,?_⟩
     rintro _ aQ ⟨V,rfl,hV,bm⟩
     have aj:V=.slice none 0 0:=by
      rcases hV with⟨_,h⟩|⟨h,_⟩
      ·exact h
      ·exact absurd rfl h
     subst aj
     obtain⟨Y,ap⟩:∃Y,Y=(aQ.push (.cells false s3 (Jq noHead (.slice none 0 0)))).set aQ.size (some (.cells false s3 (Jq noHead (.slice none 0 0)))):=⟨_,rfl⟩
     have dH:noArc.head=noHead:=rfl
     refine S5 @aP @Mem.get_push_new @aD @au @dH ?_
     rw[←ap]
     have aw:∀b x,aQ.get b=some x→Y.get b=some x:=fun b x hx=>by
      have:=Mem.get_lt hx
      rw[ap,Mem.get_set_ne (by omega),Mem.get_push_old this];exact hx
     have a8:∀b x,bg.get b=some x→Y.get b=some x:=fun b x hx=>aw b x (bm.get b x hx)
     have aC:=a8 _ _ c9
     have bw:=a8 _ _ cf
     have cD:=aX.same a8
     have ej:((8:Int)==0)=false:=rfl
     have fw:∀b x,bg.get b=some x→b<bg.size:=fun b x hx=>Mem.get_lt hx
     have fX:I<M9.size:=by
      have:=Mem.get_lt (bY I _ (by simp;omega) (o8 I _ (by simp;omega) br))
      exact this
     have gr:gB<M9.size:=by
      have:=Mem.get_lt (bY gB _ (by simp;omega) (o8 gB _ (by simp;omega) bR))
      exact this
     refine J0 (J0 (R1 @dd ?_))
     refine CF (J3 ?_)
     refine S0 ?_
     refine J0 (J0 (R1 @ej ?_))
     refine CF (J3 ?_)
     refine S0 ?_
     refine J0 (J0 (R2 @aC @co ?_))
     refine⟨by kernel_rfl,_,begin_spec P' p q g aZ aF E.head Y cD (by rw[eZ];exact dC) (by omega),?_⟩
     rintro _ aI ⟨rfl,ae,ce,fx⟩
     obtain⟨G0,gj,aY,cv,bK⟩:=de
     generalize Dep.begin aZ aF E.head=X13 at ae aY cv bK
     obtain⟨f2,et,fO⟩:=X13
     simp only at ae aY cv bK
     subst aY
     refine S1 @q0 ?_
     refine CF (J3 ?_)
     refine S0 ?_
     have bk:=ce I _ (by simp;omega) aC
     have bu:=ce gB _ (by simp;omega) bw
     refine QB (fun f M'=>∃(d:Dsk)(D:Dep),f=[(12,.pointer (some ⟨I,0,none⟩)),(18,.pointer (some ⟨P',0,none⟩))]∧
      Wri key E 2 30 (qi E.blocks.length true) d D∧d.live∧DepAt M' P' p q g d D∧aI.size≤M'.size∧(∀b x,b∉ [P',p,q,g]→aI.get b=some x→M'.get b=some x)) ?_ ?_
     ·refine J0 (R0 ?_)
      refine J7 (Jr (fun j f M'=>∃(i:Nat)(G:List Bool)(d:Dsk)(D:Dep),j=n-i∧f=[(12,.pointer (some ⟨I,0,none⟩)),(18,.pointer (some ⟨P',0,none⟩)),(22,.int .i64 (i:Nat))]∧i≤n∧G.length=n∧(∀j,j<i→G[j]?=some true)∧
       Wri key E 2 (i:Nat) G d D∧d.live∧DepAt M' P' p q g d D∧aI.size≤M'.size∧(∀b x,b∉ [P',p,q,g]→aI.get b=some x→M'.get b=some x)) n ?_ ?_)
      ·refine JK [12,18,22] ?_
       exact⟨aI,tR _,0,G0,f2,et,rfl,rfl,by omega,by omega,(fun j hj=>by omega),cv,bK,ae,by omega,fun _ _ _ h=>h⟩
      ·rintro j f bc ⟨i,dV,ax,ad,rfl,rfl,hi,cz,ah,aq,ab,U,cn,aA⟩
       have cg:=aA I _ (by simp;omega) bk
       have dy:=aA gB _ (by simp;omega) bu
       refine J0 (J0 (R2 @cg @k7 ?_))
       refine(CC (decide ((i:Int)<(n:Int))) (fun hq=>J3 ?_) (fun hq=>Jn ?_))
       ·have p1:=of_decide_eq_true hq
        have i0:(0:Int)≤(i:Int):=by omega
        have w2:IntKind.i64.wrap ((i:Int)+1)=((i+1:Nat):Int):=by rw[Xn (by omega) (by omega)];omega
        obtain⟨tb,ac⟩:∃x,E.blocks[i]?=some x:=⟨_,qd (by omega)⟩
        have dW:tb.length=224:=a6.size tb (qh ac)
        have dP:(E.blocks.flatMap encS)[i]?=some (.string (str tb)):=cell_one (f:=fun s=>Value.string (str s)) ac false 1
        have dS:0≤ad.staged∧ad.staged≤30:=by
         obtain⟨ep,st,Gp,rfl,_,_,h4,h5⟩:=aq
         exact⟨h4,by show st≤30;omega⟩
        have aa:=wri_stage a6 az aq ac
        rw[aR]at aa
        refine QB (fun f M'=>∃(G:List Bool)(d:Dsk)(D:Dep),f=[(12,.pointer (some ⟨I,0,none⟩)),(18,.pointer (some ⟨P',0,none⟩)),(22,.int .i64 (i:Nat))]∧G.length=n∧(∀j,j<i+1→G[j]?=some true)∧
         Wri key E 2 ((i+1:Nat):Int) G d D∧d.live∧DepAt M' P' p q g d D∧aI.size≤M'.size∧(∀b x,b∉ [P',p,q,g]→aI.get b=some x→M'.get b=some x)) ?_ ?_
        ·refine J7 ?_
         refine J0 (R8 @cg @k7 @i0 @p1 @and_self @dy @qf @dP ?_)
         refine⟨by kernel_rfl,_,Ka P' p q g ax ad 1 (i:Nat) tb (by omega) (by omega) bc U,?_⟩
         rintro _ ay ⟨rfl,ai,df,fk⟩
         generalize Dep.stage ax ad 1 (i:Nat) tb=X15 at ai aa
         obtain⟨cL,cw,gi⟩:=X15
         simp only at ai aa
         obtain⟨rfl,bs,aU⟩:=aa.resolve_right fun h=>h.1 ab
         refine S1 @q0 ?_
         refine CF (J3 ?_)
         refine JK [12,18,22] ?_
         refine⟨ay,tR _,dV.set i true,cL,cw,by rw[List.length_set];exact cz,fun j hj=>?_,by rw[Int.natCast_add];exact bs,aU ab,ai,by omega,fun b x hb hx=>df b x hb (aA b x hb hx)⟩
         rw[List.getElem?_set]
         by_cases e:i=j
         ·rw[if_pos e,if_pos (by omega)]
         ·rw[if_neg e];exact ah j (by omega)
        ·rintro f ay ⟨el,cL,cw,rfl,dN,bp,bs,aU,ai,dc,e6⟩
         refine R1 @w2 ?_
         refine JK [12,18,22] ?_
         exact⟨ay,tR _,n-(i+1),⟨i+1,el,cL,cw,rfl,rfl,by omega,dN,bp,bs,aU,ai,dc,e6⟩,by omega⟩
       ·have eS:i=n:=by have:=of_decide_eq_false hq;omega
        refine S0 ?_
        refine JK [12,18] ?_
        refine⟨bc,tR _,ax,ad,?_,ab,U,cn,aA⟩
        obtain⟨ep,st,Gp,h1,h2,h3,h4,h5⟩:=aq
        have hG:dV=qi E.blocks.length true:=by
         apply List.ext_getElem?
         intro t
         by_cases ht:t<n
         ·rw[ah t (by omega),List.getElem?_replicate,if_pos (by omega)]
         ·rw[qm (by omega),qm (by simp;omega)]
        rw[←hG]
        exact⟨ep,st,Gp,h1,h2,h3,h4,by omega⟩
     ·rintro f bc ⟨ax,ad,rfl,aq,ab,U,cn,aA⟩
      have rs:=dread_spec P' p q g ax (some ad) _ 1 bc ⟨rfl,U⟩
      rw[show Kd ax (some ad) 1=Dep.read ax ad 1 from rfl,wri_read aq 1]at rs
      refine J0 (R0 ?_)
      refine⟨by kernel_rfl,_,rs,?_⟩
      rintro _ ay ⟨V,rfl,hV,b8⟩
      have aj:V=.slice none 0 0:=by
       rcases hV with⟨_,h⟩|⟨h,_⟩
       ·exact h
       ·exact absurd rfl h
      subst aj
      obtain⟨bQ,cc⟩:∃b,b=ay.size:=⟨_,rfl⟩
      obtain⟨bd,bJ⟩:∃bd,bd=(ay.push (.cells false s3 (Jq noHead (.slice none 0 0)))).set ay.size (some (.cells false s3 (Jq noHead (.slice none 0 0)))):=⟨_,rfl⟩
      refine S5 @aP @Mem.get_push_new @aD @au @dH ?_
      rw[←bJ,←cc]
      have dF:bd.get bQ=some (.cells false s3 (Jq noHead (.slice none 0 0))):=by rw[bJ,cc];exact Mem.get_set_same (Mem.get_push_new _ _) _
      have cq:∀b x,ay.get b=some x→bd.get b=some x:=fun b x hx=>by
       have:=Mem.get_lt hx
       rw[bJ,Mem.get_set_ne (by omega),Mem.get_push_old this];exact hx
      have b5:∀b x,bc.get b=some x→bd.get b=some x:=fun b x hx=>cq b x (b8.get b x hx)
      have cG:=U.same b5
      have dA:=b5 _ _ (aA I _ (by simp;omega) bk)
      have dI:=b5 _ _ (aA gB _ (by simp;omega) bu)
      have gt:=b8.size
      have av:=wri_commit a6 az rfl aq
      rw[aR]at av
      have eH:((8:Int) !=8)=false:=rfl
      have bW:((0:Int)==0)=true:=rfl
      have qz:decide (((0:Nat):Int)>0)=false:=rfl
      obtain⟨_,_,_,du,_⟩:=U.row
      obtain⟨_,dL⟩:=U.dsk.row
      have fa:=Mem.get_lt du
      have fg:=Mem.get_lt dL
      have fv:=Mem.get_lt U.dsk.kv
      have fd:=Mem.get_lt U.dsk.old
      refine J0 (J0 (R4 @eH @dF @k7 @qz ?_))
      refine⟨by kernel_rfl,_,commit_spec P' p q g ax ad 1 bd cG,?_⟩
      rintro _ dJ ⟨rfl,b7,bF,fj⟩
      generalize Dep.commit ax ad 1=X17 at b7 av
      obtain⟨cJ,cQ,ge⟩:=X17
      simp only at b7 av
      obtain⟨rfl,_,h2⟩:=av.resolve_right fun h=>h.1 ab
      have bo:=bF bQ _ (by simp;omega) dF
      have dB:=bF I _ (by simp;omega) dA
      have dn:=bF gB _ (by simp;omega) dI
      refine S1 @q0 ?_
      refine CF (J3 ?_)
      refine S0 ?_
      have hr:=has2_read a6 az h2
      rw[aR]at hr
      have rs:=dread_spec P' p q g cJ (some cQ) _ 1 dJ ⟨rfl,b7⟩
      rw[show Kd cJ (some cQ) 1=Dep.read cJ cQ 1 from rfl,hr]at rs
      refine J0 (R0 ?_)
      refine⟨by kernel_rfl,_,rs,?_⟩
      rintro _ em ⟨V,rfl,hV,bC⟩
      obtain⟨aV,cV,aj⟩:=hV.len
      have aj:V=.slice aV E.blocks.length cV:=aj
      subst aj
      have bE:=bC.get _ _ bo
      have eq:∀(M0:Mem)(b:Nat)(x y:Header) V a n c,Ji 8 M0 b 0 (Jq y (.slice a n c)) (some (.cells false s3 (Jq x V)))=some (M0.set b (some (.cells false s3 (Jq y (.slice a n c))))):=au
      refine S3 @aD @bE @au ?_
      obtain⟨aE,aL⟩:∃aE,aE=em.set bQ (some (.cells false s3 (Jq E.head (.slice aV E.blocks.length cV)))):=⟨_,rfl⟩
      rw[←aL]
      have cp:aE.get bQ=some (.cells false s3 (Jq E.head (.slice aV E.blocks.length cV))):=by rw[aL];exact Mem.get_set_same bE _
      have fN:=Mem.get_lt bo
      have dM:aE.get I=some (.cells false s3 (Jq E.head (.slice (some ⟨gB,0,none⟩) n n))):=by
       have:=Mem.get_lt (b8.get _ _ (aA I _ (by simp;omega) bk))
       rw[aL,Mem.get_set_ne (by omega)];exact bC.get _ _ dB
      have dG:aE.get gB=some (.cells false 1 (E.blocks.flatMap encS)):=by
       have:=Mem.get_lt (b8.get _ _ (aA gB _ (by simp;omega) bu))
       rw[aL,Mem.get_set_ne (by omega)];exact bC.get _ _ dn
      have bz:StrsRd aE (.slice (some ⟨gB,0,none⟩) n n) E.blocks:=OwnL.strs (k:=0) (.inr ⟨(fun e=>by rw[e]at ar;simp at ar),gB,Nat.zero_le _,by rw[hn],dG⟩)
      have bb:StrsRd aE (.slice aV E.blocks.length cV) E.blocks:=by
       refine OwnL.strs (k:=dJ.size) (hV.same fun b x hb hx=>?_)
       have:=(hV.live hb).1
       rw[aL,Mem.get_set_ne (by omega)];exact hx
      obtain⟨N1,sm,dj⟩:=asame_spec E E (by omega) (by omega) aE _ _ bz bb
      rw[show(sameH E.head E.head&&decide (E.blocks=E.blocks))=true by rw[sameH_self];simp]at sm
      refine J0 (R4 @bW @dM @ba @cp ?_)
      refine⟨by kernel_rfl,_,sm,?_⟩
      rintro _ ga ⟨rfl,_⟩
      refine S0 ?_
      refine⟨by kernel_rfl,_,awake25_spec _,?_⟩
      rintro _ fM ⟨rfl,_⟩
      refine S0 ?_
      refine T0 ?_
      first|exact⟨_,tR _,rfl⟩|exact⟨_,tR _⟩|exact⟨_,tR _,rfl,rfl⟩
theorem arg_nums{P:Program}{m:Mem}{B:Nat}{t e:TypeId}{v:Value}(hu:P.underlying t=some (.slice e))(he:P.underlying e=some (.int .i64))(hn:P.cellsOf e=1)(h:ArgOf P m B t v):
 ∃xs:List Int,Rd m 1 v xs.length (xs.flatMap fun n=>[.int .i64 n])∧(∀x∈xs, -9223372036854775808≤x∧x≤9223372036854775807)∧xs.length≤B:=by
 obtain⟨v',xs,O,I,h2,E⟩:=ARep.list (fun n:Int=>[.int .i64 n]) (fun n=>(Lit.int .i64 n).wf=true) hu hn (fun cs hc=>by
  obtain⟨n,rfl,hw⟩:=hc.inv_int he
  exact⟨n,rfl,hw⟩) (arg_list hu h)
 cases O
 exact⟨xs,I,fun x hx=>by simpa[Lit.wf,IntKind.min,IntKind.max,IntKind.signed,IntKind.bits]using E x hx,h2.1⟩
end Go.Proofs.YthohbneadomgdaaGreatDoor
