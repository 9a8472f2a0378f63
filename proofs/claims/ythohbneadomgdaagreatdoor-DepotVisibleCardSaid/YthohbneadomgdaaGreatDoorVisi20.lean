import Derived.Test.YthohbneadomgdaaGreatDoorVisi14
import Derived.Test.YthohbneadomgdaaGreatDoorVisi10
import Derived.Test.YthohbneadomgdaaGreatDoorVisi19
import Derived.Test.YthohbneadomgdaaGreatDoorVisi15
import Derived.Test.YthohbneadomgdaaGreatDoorVisi11
import Derived.Shelf.SlIterI.Nil
import Derived.Shelf.SortM.Plain
import Derived.Shelf.SortM.SortNone
import Derived.Ground.GgzProg
import Derived.Ground.SlgmProg
import Derived.Test.YthohbneadomgdaaGreatDoorProg
import Derived.Test.YthohbneadomgdaaGreatDoorVisi13
import Derived.Maps.Own
set_option linter.all false
set_option maxRecDepth 100000
set_option maxHeartbeats 16000000
open Nat renaming reduceLT→yQ,reduceEqDiff→yK,reduceAdd→yV,reduceSub→yY,reduceMul→yU
open Int renaming reduceToNat→yW,reduceLE→yX,reduceEq→yZ,reduceLT→yJ
open List renaming replicate→qc,length_append→qe,eq_nil_of_length_eq_zero→qf,getElem?_mapIdx→qi,getElem?_eq_some_iff→qj,getElem?_replicate→qk,Pairwise→qm,append_nil→qo,length_map→qp,mem_cons→qq,mem_of_getElem?→qu,length_nil→qw,ext_getElem?→qx,length_replicate→qy,getElem?_set_ne→qA,nil_append→qB,getElem?_eq_getElem→qC,length_cons→qD,mem_append→qF,map_map→qI,mem_singleton→qJ
open Go.Proofs.Tryz renaming prog→qd,underlying3→qv,zeroValue3→qH
open Nat renaming le_refl→qh,zero_add→qG
open Int renaming toNat_natCast→qt
open Option renaming map_some→qE
namespace Go.Proofs.YthohbneadomgdaaGreatDoor
open Go.RowKit Abs
def OpenAt(M M':Mem)(p q g:Nat)(v:Value)(X:Dsk×Option Dep×Int):Prop:=match X.2.1 with
 |none=>v=.pointer none∧DskAt M' p q g X.1
 |some D=>∃P,v=.pointer (some ⟨P,0,none⟩)∧M.size≤P∧DepAt M' P p q g X.1 D
theorem open_spec(M:Mem)(p q g:Nat)(d:Dsk)(hd:DskAt M p q g d)(secret:ByteArray)(hsec:secret.size≤140737488355000):
 Abs.Spec qd 12 [dp p,.string secret] M fun u M'=>∃v,u=.tuple #[v,.int .i64 (openD d (Sha.headKey secret.data.toList)).2.2]∧OpenAt M M' p q g v (openD d (Sha.headKey secret.data.toList))∧Only [p,q,g] M M'∧M.size≤M'.size:=by
 obtain⟨key,aI⟩:∃key,key=Sha.headKey secret.data.toList:=⟨_,rfl⟩
 have bj:key.length≤1000000:=by rw[aI,Z0];decide
 rw[←aI]
 obtain⟨Z,hZ⟩:∃Z,Z=openD d key:=⟨_,rfl⟩
 rw[←hZ]
 unfold openD at hZ
 refine Abs.Spec.walkM Tryz.func12 (by rfl) _ Tryz.results12 _ Tryz.ntmps12 (by simp[dp]) ?_
 intro hc hx k
 have hN:=hd.ok.n
 have bK:p<M.size:=by obtain⟨s,h⟩:=hd.row;exact Qb h
 have bP:q<M.size:=Qb hd.kv
 have bH:g<M.size:=Qb hd.old
 have bB:dp p=.pointer (some ⟨p,0,none⟩):=rfl
 refine J0 (R0 ?_)
 refine J0 (J0 (R0 ?_))
 refine K0 (dlen_spec M p q g d hd) ?_
 refine CC (decide ((d.old.length:Int)<13)) (fun h=>J0 (J1 ?_)) (fun h=>J3 ?_)
 ·rw[if_pos (by have:=of_decide_eq_true h;omega)]at hZ
  refine S0 ?_
  refine T0 ?_
  subst hZ
  exact⟨M,tR _,_,rfl,⟨rfl,hd⟩,Only.refl _ _,qh _⟩
 have bQ:13≤d.old.length:=by have:=of_decide_eq_false h;omega
 rw[if_neg (by omega)]at hZ
 refine S0 ?_
 refine J0 (R0 ?_)
 refine⟨by kernel_rfl,_,keys_spec secret _ (by omega) (by decide) M,?_⟩
 rintro _ M9 ⟨rfl,e9⟩;replace e9:=e9.symm;subst e9
 have bs:keysV secret.data.toList (⟨#[]⟩:ByteArray).data.toList=.agg #[.string (str (Sha.encKey secret.data.toList [])),.string (str (Sha.macKey secret.data.toList [])),.string (str key)]:=by rw[aI];rfl
 rw[bs]
 have bd:vField qd 98 (some (.agg #[.string (str (Sha.encKey secret.data.toList [])),.string (str (Sha.macKey secret.data.toList [])),.string (str key)])) 2=some (.string (str key)):=by rfl
 obtain⟨D0,a8⟩:∃D0,D0=Dep.fresh key:=⟨_,rfl⟩
 have bG:Qj qd 74 [(0,.pointer (some ⟨p,0,none⟩)),(1,.string (str key))]=some (.agg (JW p D0 (qc 4 (.pointer none)) (qc 8 (.pointer none))).toArray):=by rw[a8];kernel_rfl
 have bc:QO qd 74 (.agg (JW p D0 (qc 4 (.pointer none)) (qc 8 (.pointer none))).toArray)=some (.cells false (J6 qd 74) (JW p D0 (qc 4 (.pointer none)) (qc 8 (.pointer none)))):=bx_Dep _ rfl
 generalize J6 qd 74=s1 at bc
 refine S4 @bd @bB @bG @bc ?_
 obtain⟨M2,aH⟩:∃M2,M2=M.push (.cells false s1 (JW p D0 (qc 4 (.pointer none)) (qc 8 (.pointer none)))):=⟨_,rfl⟩
 obtain⟨P,hP⟩:∃P,P=M.size:=⟨_,rfl⟩
 have bw:M2.get P=some (.cells false s1 (JW p D0 (qc 4 (.pointer none)) (qc 8 (.pointer none)))):=by rw[aH,hP,Mem.get_push_new]
 have bE:Only [p,q,g] M M2:=by rw[aH];exact Only.push _ _ _
 have hs2:M2.size=M.size+1:=by rw[aH,Mem.size_push]
 rw[←aH,←hP]
 have bi:DepAt M2 P p q g d D0:=⟨hd.only (l:=[]) (by rw[aH];exact Only.push _ _ _) (by simp) (by simp) (by simp),by rw[a8];exact fresh_ok key _,⟨s1,_,_,bw,by rw[a8];exact ptrs_none _ _ _ _,by rw[a8];exact ptrs_none _ _ _ _⟩,by omega⟩
 have aF:∀M':Mem,Only [P,p,q,g] M2 M'→Only [p,q,g] M M':=fun M' ho b x hb hx=>by
  have:=Mem.get_lt hx
  exact ho b x (by simp at hb ⊢;exact⟨by omega,hb⟩) (bE b x hb hx)
 refine J0 (J0 (R0 ?_))
 refine J7 (Jr (fun j f M'=>∃i:Nat,j=8-i∧i≤8∧(d.dead=true→i=0)∧f=[(0,.pointer (some ⟨p,0,none⟩)),(6,.pointer (some ⟨P,0,none⟩)),(29,.int .i64 (i:Nat))]∧
  DepAt M' P p q g d { D0 with kept:=Jp d key i }∧Only [P,p,q,g] M2 M'∧M2.size≤M'.size) 8 ?_ ?_)
 ·refine JK [0,6,29] ?_
  exact⟨M2,tR _,0,rfl,by omega,fun _=>rfl,rfl,by subst a8;exact bi,Only.refl _ _,qh _⟩
 ·rintro j f M' ⟨i,rfl,bO,bF,rfl,a2,ho,aU⟩
  refine J0 (R0 ?_)
  refine J0 (CC (decide ((i:Int)<8)) (fun h=>J3 ?_) (fun h=>Jn ?_))
  ·have h:=of_decide_eq_true h
   have hi:i<8:=by omega
   have w1:IntKind.i64.wrap (5+(i:Int))=((5+i:Nat):Int):=by rw[Xn (by omega) (by omega)];omega
   have w2:IntKind.i64.wrap ((i:Int)+1)=((i+1:Nat):Int):=by rw[Xn (by omega) (by omega)];omega
   have aQ:=read_at (d:=d) (i:=5+i) (by omega)
   have b9:=sector_len hd.ok (i:=5+i) (by omega)
   simp only[zZ,reduceIte,yQ,yW,yX,yZ,yJ,yK,yV]
   refine J0 (J7 (J0 (R0 ?_)))
   refine J0 (R1 @w1 ?_)
   refine⟨by kernel_rfl,_,read_spec M' p q g d a2.dsk ((5+i:Nat):Int),?_⟩
   rintro _ M9 ⟨rfl,e9⟩;replace e9:=e9.symm;subst e9
   rw[aQ]
   cases ax:d.dead with
   |true=>
    rw[if_pos ax]at hZ
    have q1:((7:Int) !=0)=true:=rfl
    simp only[if_true,zZ,reduceIte,yQ,yW,yX,yZ,yJ,yK,yV,zDk,Jc,Jb,J9,J8,Xx]
    refine J0 (J0 (R1 @q1 ?_))
    refine CT (J0 (R0 ?_))
    refine T0 ?_
    subst hZ
    exact⟨_,tR _,_,rfl,⟨rfl,a2.dsk⟩,aF _ ho,by omega⟩
   |false=>
   have q1:((0:Int) !=0)=false:=rfl
   simp only[if_false,Bool.false_eq_true,zZ,reduceIte,yQ,yW,yX,yZ,yJ,yK,yV,zDk,Jc,Jb,J9,J8,Xx]
   refine J0 (J0 (R1 @q1 ?_))
   refine CF (J3 ?_)
   refine S0 ?_
   refine J0 (R0 ?_)
   refine⟨by kernel_rfl,_,ctake_at (d.sector (5+i)) b9 M',?_⟩
   rintro _ M9 ⟨rfl,e9⟩;replace e9:=e9.symm;subst e9
   have aE:Qa qd 85=some (.cells false (J6 qd 85) noExt.cells):=al_Ext
   generalize J6 qd 85=s2 at aE
   have be:∀x:Ext,(Value.agg x.cells.toArray).cells.toList=x.cells:=fun _=>rfl
   have bg:∀(M0:Mem)(b:Nat)(x y:Ext),Ji 8 M0 b 0 y.cells (some (.cells false s2 x.cells))=some (M0.set b (some (.cells false s2 y.cells))):=fun _ _ _ _=>rfl
   have aD:∀(x:Ext),Ju 8 0 (some (.cells false s2 x.cells))=some (.agg x.cells.toArray):=fun _=>rfl
   refine S4 @aE @Mem.get_push_new @be @bg ?_
   obtain⟨X,hX⟩:∃X,X=Xf (d.sector (5+i)):=⟨_,rfl⟩
   have az:Jp d key (i+1)=(Jp d key i).set i (XJ d key (Jp d key i) i):=rfl
   unfold XJ at az
   rw[←hX]at az ⊢
   obtain⟨b4,aN⟩:∃b,b=M'.size:=⟨_,rfl⟩
   obtain⟨M4,ai⟩:∃M4,M4=(M'.push (.cells false s2 noExt.cells)).set M'.size (some (.cells false s2 X.1.cells)):=⟨_,rfl⟩
   rw[←ai,←aN]
   have g4:M4.get b4=some (.cells false s2 X.1.cells):=by rw[ai,aN];exact Mem.get_set_same (Mem.get_push_new _ _) _
   have av:More M' M4:=⟨fun b x hb=>by
    have:=Mem.get_lt hb
    rw[ai,Mem.get_set_ne (by omega),Mem.get_push_old this];exact hb,by rw[ai,Mem.size_set,Mem.size_push];omega⟩
   have bf:=av.size
   have aB:Only [P,p,q,g] M2 M4:=fun b x hb hx=>av.get _ _ (ho b x hb hx)
   have aa:=a2.same av.get
   cases q2:(X.2==0)with
   |false=>
    have b8:Jp d key (i+1)=Jp d key i:=by
     rw[az,if_neg (fun h=>by rw[h.1]at q2;cases q2)]
     exact set_same (Uq d key i i (qh _) hi)
    refine J0 (R1 @q2 ?_)
    refine CF (J3 ?_)
    refine S0 ?_
    refine R1 @w2 ?_
    refine JK [0,6,29] ?_
    exact⟨M4,tR _,8-(i+1),⟨i+1,rfl,by omega,(fun h=>by cases h),rfl,by rw[b8];exact aa,aB,by omega⟩,by omega⟩
   |true=>
    have aL:X.2=0:=by simpa using q2
    have aJ:JE X.1=true:=by rw[hX];exact catTake_may (by rw[←hX];exact aL)
    refine J0 (R3 @q2 @g4 @aD ?_)
    refine⟨by kernel_rfl,_,fits_spec P p q g d _ M4 aa (by subst a8;exact bj) X.1 aJ,?_⟩
    rintro _ M5 ⟨rfl,ak⟩
    have bz:=ak.size
    have g5:=ak.get _ _ g4
    have ah:Only [P,p,q,g] M2 M5:=fun b x hb hx=>ak.get _ _ (aB b x hb hx)
    have U:=aa.same ak.get
    have aT:Z3 ({ D0 with kept:=Jp d key i }:Dep).key d.old.length ({ D0 with kept:=Jp d key i }:Dep).places X.1=Z3 key d.old.length (Qs (Jp d key i) []) X.1:=by
     subst a8
     unfold Dep.places Dep.fresh
     simp only
     rw[places_none]
    rw[aT]
    refine S0 ?_
    refine CC (Z3 key d.old.length (Qs (Jp d key i) []) X.1) (fun hq=>J1 ?_) (fun hq=>J3 ?_)
    ·rw[if_pos ⟨aL,hq⟩]at az
     obtain⟨s5,a6,a7,Y,ad,ap⟩:=U.row
     have l4:a6.length=4:=by rw[ad.len,U.ok.opn]
     have l8:a7.length=8:=by rw[ap.len,U.ok.kept]
     have ln:=VZ p { D0 with kept:=Jp d key i } a6 a7 l4 l8
     have z0:(0:Int)≤(i:Int):=by omega
     have z8:(i:Int)<((8:Nat):Int):=by omega
     have b6:(i:Int)<8:=by omega
     have ao:Ji 1 M5 P (7+i) [.pointer (some ⟨b4,0,none⟩)] (some (.cells false s5 (JW p { D0 with kept:=Jp d key i } a6 a7)))=some (M5.set P (some (.cells false s5 ((JW p { D0 with kept:=Jp d key i } a6 a7).set (7+i) (.pointer (some ⟨b4,0,none⟩)))))):=by
      simp only[Ji]
      rw[if_pos ⟨rfl,by show 7+i+1≤(JW p { D0 with kept:=Jp d key i } a6 a7).length;omega,rfl⟩]
      rfl
     have nP:b4∉ [P,p,q,g]:=by
      simp only[qq,List.not_mem_nil,or_false]
      omega
     have ae:=U.turnK ad ap Y i hi (some X.1) (fun y hy=>by cases hy;have:=fits_fitX hq;subst a8;exact this) (.pointer (some ⟨b4,0,none⟩)) ⟨b4,s2,nP,rfl,g5⟩
     simp only at ae
     rw[←az]at ae
     refine S7 @Y @z0 @z8 @b6 @and_self @qt @ao ?_
     refine R1 @w2 ?_
     refine JK [0,6,29] ?_
     exact⟨_,tR _,8-(i+1),⟨i+1,rfl,by omega,(fun h=>by cases h),rfl,ae,ah.trans (Only.set (by simp) _),by rw[Mem.size_set];omega⟩,by omega⟩
    ·have b8:Jp d key (i+1)=Jp d key i:=by
      rw[az,if_neg (fun h=>by rw[h.2]at hq;cases hq)]
      exact set_same (Uq d key i i (qh _) hi)
     refine S0 ?_
     refine R1 @w2 ?_
     refine JK [0,6,29] ?_
     exact⟨M5,tR _,8-(i+1),⟨i+1,rfl,by omega,(fun h=>by cases h),rfl,by rw[b8];exact U,ah,by omega⟩,by omega⟩
  ·have h:=of_decide_eq_false h
   obtain rfl:i=8:=by omega
   have ax:d.dead=false:=by
    cases ax:d.dead with
    |false=>rfl
    |true=>have:=bF ax;omega
   rw[if_neg (by rw[ax];decide)]at hZ
   obtain⟨K,hK⟩:∃K,K=Jp d key 8:=⟨_,rfl⟩
   rw[←hK]at hZ a2
   refine S0 ?_
   refine J0 (J0 (R0 ?_))
   refine J7 (Jr (fun j f M'=>∃i:Nat,j=4-i∧i≤4∧f=[(0,.pointer (some ⟨p,0,none⟩)),(6,.pointer (some ⟨P,0,none⟩)),(60,.int .i64 (i:Nat))]∧(Jl key K d i).2.2=0∧(Jl key K d i).1.dead=false∧(Jl key K d i).1.old.length=d.old.length∧
    DepAt M' P p q g (Jl key K d i).1 { D0 with kept:=K,opn:=(Jl key K d i).2.1 }∧Only [P,p,q,g] M2 M'∧M2.size≤M'.size) 4 ?_ ?_)
   ·refine JK [0,6,60] ?_
    exact⟨M',tR _,0,rfl,by omega,rfl,rfl,ax,rfl,by subst a8;exact a2,ho,aU⟩
   ·clear a2 ho aU
    rintro j f M' ⟨i,rfl,bJ,rfl,aS,ay,au,a2,ho,aU⟩
    refine J0 (R0 ?_)
    obtain⟨di,aw⟩:∃di,di=(Jl key K d i).1:=⟨_,rfl⟩
    obtain⟨O,hO⟩:∃O,O=(Jl key K d i).2.1:=⟨_,rfl⟩
    have I:Jl key K d (i+1)=Xd key K di O i:=by
     show(if(Jl key K d i).2.2≠0 then Jl key K d i else Xd key K (Jl key K d i).1 (Jl key K d i).2.1 i)=_
     rw[if_neg (by rw[aS];decide),aw,hO]
    unfold Xd at I
    refine J0 (CC (decide ((i:Int)<4)) (fun h=>J3 ?_) (fun h=>Jn ?_))
    ·have h:=of_decide_eq_true h
     have hi:i<4:=by omega
     rw[←aw]at ay au a2
     rw[←hO]at a2
     have w1:IntKind.i64.wrap (1+(i:Int))=((1+i:Nat):Int):=by rw[Xn (by omega) (by omega)];omega
     have w2:IntKind.i64.wrap ((i:Int)+1)=((i+1:Nat):Int):=by rw[Xn (by omega) (by omega)];omega
     have aQ:=read_at (d:=di) (i:=1+i) (by omega)
     rw[if_neg (by rw[ay];decide)]at aQ
     have b9:=sector_len a2.dsk.ok (i:=1+i) (by omega)
     simp only[zZ,reduceIte,yQ,yW,yX,yZ,yJ,yK,yV]
     refine J0 (J7 (J0 (R0 ?_)))
     refine J0 (R1 @w1 ?_)
     refine⟨by kernel_rfl,_,read_spec M' p q g di a2.dsk ((1+i:Nat):Int),?_⟩
     rintro _ M9 ⟨rfl,e9⟩;replace e9:=e9.symm;subst e9
     rw[aQ]
     have q1:((0:Int) !=0)=false:=rfl
     refine S0 ?_
     refine J0 (J0 (R1 @q1 ?_))
     refine CF (J3 ?_)
     refine S0 ?_
     refine J0 (R0 ?_)
     refine⟨by kernel_rfl,_,jtake_at (di.sector (1+i)) b9 M',?_⟩
     rintro _ M9 ⟨rfl,e9⟩;replace e9:=e9.symm;subst e9
     have aE:Qa qd 88=some (.cells false (J6 qd 88) noRec.cells):=al_Rec
     generalize J6 qd 88=s2 at aE
     have aZ:∀x:Rec,(Value.agg x.cells.toArray).cells.toList=x.cells:=fun _=>rfl
     have aY:∀(M0:Mem)(b:Nat)(x y:Rec),Ji 13 M0 b 0 y.cells (some (.cells false s2 x.cells))=some (M0.set b (some (.cells false s2 y.cells))):=fun _ _ _ _=>rfl
     have aD:∀(x:Rec),Ju 8 0 (some (.cells false s2 x.cells))=some (.agg x.x.cells.toArray):=fun _=>rfl
     refine S4 @aE @Mem.get_push_new @aZ @aY ?_
     obtain⟨X,hX⟩:∃X,X=QR (di.sector (1+i)):=⟨_,rfl⟩
     rw[←hX]at I ⊢
     obtain⟨b4,aN⟩:∃b,b=M'.size:=⟨_,rfl⟩
     obtain⟨M4,ai⟩:∃M4,M4=(M'.push (.cells false s2 noRec.cells)).set M'.size (some (.cells false s2 X.1.cells)):=⟨_,rfl⟩
     rw[←ai,←aN]
     have g4:M4.get b4=some (.cells false s2 X.1.cells):=by rw[ai,aN];exact Mem.get_set_same (Mem.get_push_new _ _) _
     have av:More M' M4:=⟨fun b x hb=>by
      have:=Mem.get_lt hb
      rw[ai,Mem.get_set_ne (by omega),Mem.get_push_old this];exact hb,by rw[ai,Mem.size_set,Mem.size_push];omega⟩
     have bf:=av.size
     have aB:Only [P,p,q,g] M2 M4:=fun b x hb hx=>av.get _ _ (ho b x hb hx)
     have aa:=a2.same av.get
     cases q2:(X.2==0)with
     |false=>
      have b5:¬(X.2=0∧Z3 key di.old.length (Qs K O) X.1.x=true):=fun h=>by rw[h.1]at q2;cases q2
      obtain⟨M5,e5⟩:∃M5,M5=M4:=⟨_,rfl⟩
      rw[←e5]at aa aB bf ⊢
      have U:=aa
      have ah:=aB
      refine J0 (R1 @q2 ?_)
      rw[if_neg b5]at I
      refine CF (J0 (J1 ?_))
      cases q3:(X.2 !=8)with
      |false=>
       rw[if_neg (by simpa using q3)]at I
       refine S1 @q3 ?_
       refine CF (J3 ?_)
       refine S0 ?_
       refine R1 @w2 ?_
       refine JK [0,6,60] ?_
       exact⟨M5,tR _,4-(i+1),⟨i+1,rfl,by omega,rfl,by rw[I],by rw[I];exact ay,by rw[I];exact au,by rw[I];exact U,ah,by omega⟩,by omega⟩
      |true=>
       rw[if_pos (by simpa using q3)]at I
       obtain⟨Wd,ar⟩:∃Wd,Wd=di.write ((1+i:Nat):Int) []:=⟨_,rfl⟩
       have aM:Wd.1.old.length=di.old.length:=by rw[ar];exact QM _ _ _
       have ba:Wd.2=0→Wd.1.dead=false:=fun h0=>by rw[ar]at h0 ⊢;exact(Dsk.write_alive (by omega) (by decide) h0).2
       have ws:=Z8 M5 p q g di U.dsk ((1+i:Nat):Int) [] (by simp)
       rw[←ar]at ws I
       refine S1 @q3 ?_
       refine CT (J0 (R1 @w1 ?_))
       refine⟨by kernel_rfl,_,ws,?_⟩
       rintro _ M6 ⟨rfl,aK,aX,bt⟩
       have an:Only [p,q,g] M5 M6:=aX.mono (by simp)
       have aG:=U.disk aK aM an
       have al:Only [P,p,q,g] M2 M6:=ah.trans (an.mono (by simp))
       refine S0 ?_
       refine J0 (R0 ?_)
       refine CC (Wd.2 !=0) (fun hq=>J0 (J1 ?_)) (fun hq=>J3 ?_)
       ·have h4:Jl key K d 4=Jl key K d (i+1):=opn_stick (by rw[I];simpa using hq) 4 (by omega)
        rw[h4,I,if_pos (by simpa using hq)]at hZ
        refine S0 ?_
        refine T0 ?_
        subst hZ
        exact⟨_,tR _,_,rfl,⟨rfl,aK⟩,aF _ al,by omega⟩
       ·refine S0 ?_
        refine R1 @w2 ?_
        refine JK [0,6,60] ?_
        exact⟨M6,tR _,4-(i+1),⟨i+1,rfl,by omega,rfl,by rw[I];simpa using hq,by rw[I];exact ba (by simpa using hq),by rw[I];exact aM.trans au,by rw[I];exact aG,al,by omega⟩,by omega⟩
     |true=>
      have aL:X.2=0:=by simpa using q2
      have aJ:=jouTake_may (s:=di.sector (1+i)) (by rw[←hX];exact aL)
      rw[←hX]at aJ
      refine J0 (R3 @q2 @g4 @aD ?_)
      refine⟨by kernel_rfl,_,fits_spec P p q g di _ M4 aa (by subst a8;exact bj) X.1.x aJ.1,?_⟩
      rintro _ M5 ⟨rfl,ak⟩
      have bz:=ak.size
      have g5:=ak.get _ _ g4
      have ah:Only [P,p,q,g] M2 M5:=fun b x hb hx=>ak.get _ _ (aB b x hb hx)
      have U:=aa.same ak.get
      have aT:Z3 ({ D0 with kept:=K,opn:=O }:Dep).key di.old.length ({ D0 with kept:=K,opn:=O }:Dep).places X.1.x=Z3 key di.old.length (Qs K O) X.1.x:=by subst a8;rfl
      rw[aT]
      refine S0 ?_
      cases hq:Z3 key di.old.length (Qs K O) X.1.x with
      |true=>
       rw[if_pos ⟨aL,hq⟩]at I
       obtain⟨s5,a6,a7,Y,ad,ap⟩:=U.row
       have l4:a6.length=4:=by rw[ad.len,U.ok.opn]
       have l8:a7.length=8:=by rw[ap.len,U.ok.kept]
       have ln:=VZ p { D0 with kept:=K,opn:=O } a6 a7 l4 l8
       have z0:(0:Int)≤(i:Int):=by omega
       have z8:(i:Int)<((4:Nat):Int):=by omega
       have b6:(i:Int)<4:=by omega
       have ao:Ji 1 M5 P (3+i) [.pointer (some ⟨b4,0,none⟩)] (some (.cells false s5 (JW p { D0 with kept:=K,opn:=O } a6 a7)))=some (M5.set P (some (.cells false s5 ((JW p { D0 with kept:=K,opn:=O } a6 a7).set (3+i) (.pointer (some ⟨b4,0,none⟩)))))):=by
        simp only[Ji]
        rw[if_pos ⟨rfl,by show 3+i+1≤(JW p { D0 with kept:=K,opn:=O } a6 a7).length;omega,rfl⟩]
        rfl
       have nP:b4∉ [P,p,q,g]:=by
        simp only[qq,List.not_mem_nil,or_false]
        omega
       have ae:=U.turnO ad ap Y i hi (some X.1) (fun y hy=>by cases hy;exact⟨by have:=fits_fitX hq;subst a8;exact this,aJ.2⟩) (.pointer (some ⟨b4,0,none⟩)) ⟨b4,s2,nP,rfl,g5⟩
       refine CT (R7 @Y @z0 @z8 @b6 @and_self @qt @ao ?_)
       refine R1 @w2 ?_
       refine JK [0,6,60] ?_
       exact⟨_,tR _,4-(i+1),⟨i+1,rfl,by omega,rfl,by rw[I],by rw[I];exact ay,by rw[I];exact au,by rw[I];exact ae,ah.trans (Only.set (by simp) _),by rw[Mem.size_set];omega⟩,by omega⟩
      |false=>
       have b5:¬(X.2=0∧Z3 key di.old.length (Qs K O) X.1.x=true):=fun h=>by rw[h.2]at hq;cases hq
       rw[if_neg b5]at I
       refine CF (J0 (J1 ?_))
       cases q3:(X.2 !=8)with
       |false=>
        rw[if_neg (by simpa using q3)]at I
        refine S1 @q3 ?_
        refine CF (J3 ?_)
        refine S0 ?_
        refine R1 @w2 ?_
        refine JK [0,6,60] ?_
        exact⟨M5,tR _,4-(i+1),⟨i+1,rfl,by omega,rfl,by rw[I],by rw[I];exact ay,by rw[I];exact au,by rw[I];exact U,ah,by omega⟩,by omega⟩
       |true=>
        rw[if_pos (by simpa using q3)]at I
        obtain⟨Wd,ar⟩:∃Wd,Wd=di.write ((1+i:Nat):Int) []:=⟨_,rfl⟩
        have aM:Wd.1.old.length=di.old.length:=by rw[ar];exact QM _ _ _
        have ba:Wd.2=0→Wd.1.dead=false:=fun h0=>by rw[ar]at h0 ⊢;exact(Dsk.write_alive (by omega) (by decide) h0).2
        have ws:=Z8 M5 p q g di U.dsk ((1+i:Nat):Int) [] (by simp)
        rw[←ar]at ws I
        refine S1 @q3 ?_
        refine CT (J0 (R1 @w1 ?_))
        refine⟨by kernel_rfl,_,ws,?_⟩
        rintro _ M6 ⟨rfl,aK,aX,bt⟩
        have an:Only [p,q,g] M5 M6:=aX.mono (by simp)
        have aG:=U.disk aK aM an
        have al:Only [P,p,q,g] M2 M6:=ah.trans (an.mono (by simp))
        refine S0 ?_
        refine J0 (R0 ?_)
        refine CC (Wd.2 !=0) (fun hq=>J0 (J1 ?_)) (fun hq=>J3 ?_)
        ·have h4:Jl key K d 4=Jl key K d (i+1):=opn_stick (by rw[I];simpa using hq) 4 (by omega)
         rw[h4,I,if_pos (by simpa using hq)]at hZ
         refine S0 ?_
         refine T0 ?_
         subst hZ
         exact⟨_,tR _,_,rfl,⟨rfl,aK⟩,aF _ al,by omega⟩
        ·refine S0 ?_
         refine R1 @w2 ?_
         refine JK [0,6,60] ?_
         exact⟨M6,tR _,4-(i+1),⟨i+1,rfl,by omega,rfl,by rw[I];simpa using hq,by rw[I];exact ba (by simpa using hq),by rw[I];exact aM.trans au,by rw[I];exact aG,al,by omega⟩,by omega⟩
    ·have h:=of_decide_eq_false h
     obtain rfl:i=4:=by omega
     rw[if_neg (by rw[aS];decide),←aw,←hO]at hZ
     rw[←aw]at ay au a2
     rw[←hO]at a2
     obtain⟨E,hE⟩:∃E,E=di.nextE 0:=⟨_,rfl⟩
     rw[←hE]at hZ
     have bD:E.1.old.length=di.old.length:=by rw[hE];exact nextE_len _ _
     refine S0 ?_
     refine J0 (R0 ?_)
     refine⟨by kernel_rfl,_,next_spec M' p q g di a2.dsk 0,?_⟩
     rintro _ M7 ⟨rfl,b7,al,bR⟩
     rw[←hE]at b7 ⊢
     have aR:=a2.disk b7 bD al
     have bl:Only [P,p,q,g] M2 M7:=ho.trans (al.mono (by simp))
     refine S0 ?_
     refine J0 (J0 (R0 ?_))
     refine CC (E.2.2 !=0) (fun hq=>J0 (J1 ?_)) (fun hq=>J3 ?_)
     ·rw[if_pos (by simpa using hq)]at hZ
      refine S0 ?_
      refine T0 ?_
      subst hZ
      exact⟨_,tR _,_,rfl,⟨rfl,b7⟩,aF _ bl,by omega⟩
     rw[if_neg (by simpa using hq)]at hZ
     obtain⟨s5,a6,a7,Y,ad,ap⟩:=aR.row
     have ao:Ji 1 M7 P 2 [.int .i64 E.2.1] (some (.cells false s5 (JW p { D0 with kept:=K,opn:=O } a6 a7)))=some (M7.set P (some (.cells false s5 ((JW p { D0 with kept:=K,opn:=O } a6 a7).set 2 (.int .i64 E.2.1))))):=by
      simp only[Ji]
      rw[if_pos ⟨rfl,by simp[JW],rfl⟩]
      rfl
     have ae:=aR.turnE ad ap Y E.2.1
     refine S0 ?_
     refine J0 (R2 @Y @ao ?_)
     refine J0 (R0 ?_)
     refine T0 ?_
     subst hZ
     refine⟨_,tR _,_,rfl,⟨P,rfl,by omega,?_⟩,aF _ (bl.trans (Only.set (by simp) _)),by rw[Mem.size_set];omega⟩
     subst a8
     exact ae
def Dp0(key:List UInt8)(ep st:Int):Dep:=⟨key,ep,qc 4 none,qc 8 none,st⟩
def Zm(key:List UInt8)(a:Arc)(ep st:Int)(G:List Bool):Dep:=⟨key,ep,some ⟨a.ext,G⟩::qc 3 none,qc 8 none,st⟩
def Dp2(key:List UInt8)(a:Arc)(ep st:Int):Dep:=⟨key,ep,qc 4 none,some a.ext::qc 7 none,st⟩
def XD(a:Arc)(G:List Bool):List UInt8:=JY ⟨a.ext,G⟩
section
variable {key : List UInt8} {a : Arc} {ep st : Int} {G : List Bool}
theorem Ku(hk:ArcOk key a)(hl:a.blocks.length≤6):JE a.ext=true:=by
 have E:=hk.len
 have h:=Vq hk.may
 unfold JE
 simp only[Bool.and_eq_true,decide_eq_true_eq]
 refine⟨⟨?_,by show(0:Int)≤13;decide⟩,by show(13:Int)≤1024-a.head.n;omega⟩
 unfold Header.may
 exact decide_eq_true ((Header.check_zero _).2 hk.may)
theorem d0_head(id:Int):(Dp0 key ep st).headAt id=(noHead,false,8):=rfl
theorem d1_ext(id:Int):(Zm key a ep st G).ext? id=none:=rfl
theorem d1_rec:(Zm key a ep st G).rec? a.head.id=some (0,⟨a.ext,G⟩):=by
 show X6 (fun r:Rec=>decide (r.x.head.id=a.head.id)) (some ⟨a.ext,G⟩::qc 3 none) 0=_
 unfold X6
 rw[if_pos (decide_eq_true (by rfl))]
theorem d1_head:(Zm key a ep st G).headAt a.head.id=(a.head,false,0):=by
 unfold Dep.headAt
 rw[d1_ext,d1_rec]
 rfl
theorem d2_ext:(Dp2 key a ep st).ext? a.head.id=some (0,a.ext):=by
 show X6 (fun x:Ext=>decide (x.head.id=a.head.id)) (some a.ext::qc 7 none) 0=_
 unfold X6
 rw[if_pos (decide_eq_true (by rfl))]
theorem d0_places:(Dp0 key ep st).places=[]:=rfl
theorem room_first(N n:Int)(h1:1≤n)(h2:n≤7)(hN:20≤N):roomV 13 N n []=some 13:=by
 unfold roomV
 rw[if_neg (by omega)]
 obtain⟨k,E⟩:∃k,(N-13-n+1).toNat=k+1:=⟨(N-13-n).toNat,by omega⟩
 rw[E]
 unfold roomGo
 rw[if_pos (by rfl)]
structure Sess(a:Arc)(e:Nat)(d:Dsk)(Gp G:List Bool):Prop where
 hist:Hist a d e (fun X=>X=Gp∨X=G)
 len:(G.length:Int)=a.head.n
 cur:d.sector 1=Jg (XD a G)
 sure:Sure a d G
 one:∀s,d.poss 1 s→s=Jg (XD a Gp)∨s=Jg (XD a G)
 five:∀s,d.poss 5 s→JN s=[]
theorem burnt_dead{d:Dsk}(h:d.fuse=0):d.burnt.dead=true:=by unfold Dsk.burnt;rw[if_pos h]
theorem Ux{d:Dsk}{i:Nat}{x:List UInt8}(hi:i<d.old.length)(hx:x.length≤256)(hd:d.dead=false)(h:(d.write (i:Int) x).2≠0):
 (d.write (i:Int) x).2=7∧(d.write (i:Int) x).1.dead=true∧∀j s,(d.write (i:Int) x).1.poss j s↔d.poss j s:=by
 rw[Dsk.write_eq hi hx,if_neg (by rw[hd];decide)]at h ⊢
 split at h
 ·rename_i hf
  rw[if_pos hf]
  exact⟨rfl,burnt_dead hf,fun j s=>Dsk.burnt_poss⟩
 ·exact absurd rfl h
theorem sync_bad{d:Dsk}(hn:0<d.old.length)(hd:d.dead=false)(h:d.sync.2≠0):
 d.sync.2=7∧d.sync.1.dead=true∧∀j s,d.sync.1.poss j s↔d.poss j s:=by
 rw[Dsk.sync_eq hn,if_neg (by rw[hd];decide)]at h ⊢
 split at h
 ·rename_i hf
  rw[if_pos hf]
  exact⟨rfl,burnt_dead hf,fun j s=>Dsk.burnt_poss⟩
 ·exact absurd rfl h
theorem sync_alive{d:Dsk}(hn:0<d.old.length)(h0:d.sync.2=0):d.dead=false∧d.sync.1.dead=false:=by
 rw[Dsk.sync_eq hn]at h0 ⊢
 split at h0
 ·cases h0
 ·split at h0
  ·cases h0
  ·rename_i h1 h2
   rw[if_neg h1,if_neg h2]
   refine⟨by simpa using h1,?_⟩
   show d.burnt.dead=false
   unfold Dsk.burnt
   rw[if_neg h2]
   simpa using h1
theorem Uw{d:Dsk}{i:Nat}{x:List UInt8}(hi:i<d.old.length)(hx:x.length≤256)(h0:(d.write (i:Int) x).2=0):(d.write (i:Int) x).1.sector i=Jg x:=by
 rw[Dsk.write_sector hi hx h0,if_pos rfl]
theorem sure_synced{a:Arc}{d:Dsk}{G:List Bool}{k:Nat}{b:List UInt8}(hb:a.blocks[k]?=some b)(hG:Sure a d G)(hn:0<d.old.length)(hcur:d.sector (13+k)=Jg b)(h0:d.sync.2=0):Sure a d.sync.1 (G.set k true):=fun j c hj hc t ht=>by
 have e:=Dsk.sync_done hn h0 ht
 by_cases ejk:j=k
 ·subst ejk
  rw[hb]at hc;cases hc
  rw[e,hcur]
 ·rw[qA (fun h=>ejk h.symm)]at hj
  exact hG j c hj hc t (Dsk.sync_poss hn ht)
theorem Hist.cong{a:Arc}{d d':Dsk}{e:Nat}{P:List Bool→Prop}(h:Hist a d e P)(hok:d'.Ok)(hn:d'.old.length=d.old.length)(hp:∀i t,d'.poss i t↔d.poss i t):Hist a d' e P:=
 h.less hok hn fun i t ht=>(hp i t).1 ht
theorem sess_stage{e:Nat}{d:Dsk}{Gp:List Bool}(hk:ArcOk key a)(hl:a.blocks.length≤6)(h:Sess a e d Gp G)(hd:d.dead=false)(k:Nat)(b:List UInt8)(hb:a.blocks[k]?=some b)(hG:G.getD k false=false):
 (Dep.staged1 d (Zm key a ep st G) 0 ⟨a.ext,G⟩ (k:Int) b).2.2=0∧(Dep.staged1 d (Zm key a ep st G) 0 ⟨a.ext,G⟩ (k:Int) b).2.1=Zm key a ep (st+1) (G.set k true)∧
  Sess a e (Dep.staged1 d (Zm key a ep st G) 0 ⟨a.ext,G⟩ (k:Int) b).1 G (G.set k true)∧(Dep.staged1 d (Zm key a ep st G) 0 ⟨a.ext,G⟩ (k:Int) b).1.dead=false∧(d.live→(Dep.staged1 d (Zm key a ep st G) 0 ⟨a.ext,G⟩ (k:Int) b).1.live)
 ∨¬d.live∧(Dep.staged1 d (Zm key a ep st G) 0 ⟨a.ext,G⟩ (k:Int) b).2.2=7∧(∃st',(st'=st∨st'=st+1)∧(Dep.staged1 d (Zm key a ep st G) 0 ⟨a.ext,G⟩ (k:Int) b).2.1=Zm key a ep st' G)∧
  Hist a (Dep.staged1 d (Zm key a ep st G) 0 ⟨a.ext,G⟩ (k:Int) b).1 e (fun X=>X=Gp∨X=G)∧(∀s,(Dep.staged1 d (Zm key a ep st G) 0 ⟨a.ext,G⟩ (k:Int) b).1.poss 1 s→s=Jg (XD a Gp)∨s=Jg (XD a G))∧(Dep.staged1 d (Zm key a ep st G) 0 ⟨a.ext,G⟩ (k:Int) b).1.dead=true:=by
 have ay:=h.hist.n
 have av:0<d.old.length:=by omega
 have az:=(qj.1 hb).1
 have aA:b.length=224:=hk.size b (qu hb)
 have a6:13+k<d.old.length:=by omega
 have hx:b.length≤256:=by omega
 have hm:=Ku hk hl
 have aC:G.length=a.blocks.length:=by have:=h.len;have:=hk.len;omega
 obtain⟨W,hW⟩:∃W,W=d.write ((13+k:Nat):Int) b:=⟨_,rfl⟩
 have ao:d.write ((⟨a.ext,G⟩:Rec).x.base+(k:Int)) b=W:=by rw[hW];congr 1
 obtain⟨Y,hY⟩:∃Y,Y=W.1.sync:=⟨_,rfl⟩
 obtain⟨U,hU⟩:∃U,U=Y.1.write ((1+0:Nat):Int) (XD a (G.set k true)):=⟨_,rfl⟩
 have E:=stage_rest (d:=d) (D:=Zm key a ep st G) (k:=0) (r:=⟨a.ext,G⟩) (i:=(k:Int)) (s:=b) ao.symm hY (show U=_ from hU)
 obtain⟨Z,hZ⟩:∃Z,Z=Dep.staged1 d (Zm key a ep st G) 0 ⟨a.ext,G⟩ (k:Int) b:=⟨_,rfl⟩
 rw[←hZ]at E ⊢
 have ac:Hist a W.1 e (fun X=>X=Gp∨X=G):=by rw[hW];exact h.hist.data hb hx (by omega)
 have wp:∀i t,W.1.poss i t→d.poss i t∨(i=13+k∧t=Jg b):=fun i t ht=>by rw[hW]at ht;exact Dsk.write_poss a6 hx ht
 have ag:∀s,W.1.poss 1 s→s=Jg (XD a Gp)∨s=Jg (XD a G):=fun s hs=>by
  rcases wp 1 s hs with O|⟨O,_⟩
  ·exact h.one s O
  ·omega
 by_cases w0:W.2=0
 ·rw[if_neg (by simp[w0])]at E
  have wa:=Dsk.write_alive a6 hx (by rw[←hW];exact w0)
  rw[←hW]at wa
  have ws:W.1.sector (13+k)=Jg b:=by rw[hW];exact Uw a6 hx (by rw[←hW];exact w0)
  have al:W.1.sector 1=Jg (XD a G):=by
   rw[hW,Dsk.write_sector a6 hx (by rw[←hW];exact w0),if_neg (by omega)];exact h.cur
  have I:Hist a Y.1 e (fun X=>X=Gp∨X=G):=by rw[hY];exact ac.sync
  have a8:0<W.1.old.length:=by have:=ac.n;omega
  have ah:Sure a W.1 G:=h.sure.less fun i t _ ht=>by
   rcases wp i t ht with O|⟨O,h2⟩
   ·exact .inl O
   ·exact .inr ⟨k,b,O,hb,h2⟩
  by_cases y0:Y.2=0
  ·rw[if_neg (by simp[y0])]at E
   have ya:=sync_alive a8 (by rw[←hY];exact y0)
   rw[←hY]at ya
   have ab:Sure a Y.1 (G.set k true):=by rw[hY];exact sure_synced hb ah a8 ws (by rw[←hY];exact y0)
   have y1:∀s,Y.1.poss 1 s→s=Jg (XD a G):=fun s hs=>by
    rw[hY]at hs
    rw[Dsk.sync_done a8 (by rw[←hY];exact y0) hs,al]
   have y5:∀s,Y.1.poss 5 s→JN s=[]:=fun s hs=>by
    rw[hY]at hs
    rcases wp 5 s (Dsk.sync_poss a8 hs)with O|⟨O,_⟩
    ·exact h.five s O
    ·omega
   have ai:((G.set k true).length:Int)=a.head.n:=by rw[List.length_set];exact h.len
   have aB:20≤Y.1.old.length:=I.n
   have a7:1+0<Y.1.old.length:=by omega
   have a2:(XD a (G.set k true)).length≤256:=by unfold XD;rw[jouText_len hm];decide
   have af:Hist a Y.1 e (fun X=>X=G∨X=G.set k true):=⟨I.ok,I.n,I.s0,I.free,fun s hs=>.inr ⟨G,h.len,.inl rfl,y1 s hs,fun j c hj hc t ht=>ab j c (by
    by_cases e:k=j
    ·subst e;rw[List.getElem?_set_self (by omega)]
    ·rw[qA e];exact hj) hc t ht⟩,fun s hs=>.inl (y5 s hs)⟩
   by_cases u0:U.2=0
   ·left
    rw[if_neg (by simp[u0])]at E
    have ua:=Dsk.write_alive a7 a2 (by rw[←hU];exact u0)
    rw[←hU]at ua
    have up:∀i t,U.1.poss i t→Y.1.poss i t∨(i=1+0∧t=Jg (XD a (G.set k true))):=fun i t ht=>by rw[hU]at ht;exact Dsk.write_poss a7 a2 ht
    rw[E]
    refine⟨rfl,rfl,⟨?_,ai,?_,?_,?_,?_⟩,ua.2,fun hlv=>?_⟩
    ·show Hist a U.1 e _
     rw[hU]
     exact af.record a2 (.inr ⟨G.set k true,ai,.inr rfl,rfl,ab⟩)
    ·show U.1.sector 1=_
     rw[hU]
     exact Uw a7 a2 (by rw[←hU];exact u0)
    ·exact ab.less fun i t hi ht=>by
      rcases up i t ht with O|⟨O,_⟩
      ·exact .inl O
      ·omega
    ·intro s hs
     rcases up 1 s hs with O|⟨_,O⟩
     ·exact .inl (y1 s O)
     ·exact .inr O
    ·intro s hs
     rcases up 5 s hs with O|⟨O,_⟩
     ·exact y5 s O
     ·omega
    ·show U.1.live
     rw[hU]
     refine(Dsk.write_live a7 a2 ?_).2
     rw[hY]
     refine(Dsk.sync_live a8 ?_).2
     rw[hW]
     exact(Dsk.write_live a6 hx hlv).2
   ·right
    rw[if_pos u0]at E
    have ub:=Ux a7 a2 ya.2 (by rw[←hU];exact u0)
    rw[←hU]at ub
    rw[E]
    refine⟨fun hlv=>?_,ub.1,⟨st+1,.inr rfl,rfl⟩,?_,?_,ub.2.1⟩
    ·apply u0
     rw[hU]
     refine(Dsk.write_live a7 a2 ?_).1
     rw[hY]
     refine(Dsk.sync_live a8 ?_).2
     rw[hW]
     exact(Dsk.write_live a6 hx hlv).2
    ·exact I.cong (by rw[hU];exact Dsk.write_ok I.ok a7 a2) (by rw[hU,Dsk.write_old a7 a2]) ub.2.2
    ·intro s hs
     exact .inr (y1 s ((ub.2.2 1 s).1 hs))
  ·right
   rw[if_pos y0]at E
   have yb:=sync_bad a8 wa.2 (by rw[←hY];exact y0)
   rw[←hY]at yb
   rw[E]
   refine⟨fun hlv=>?_,yb.1,⟨st+1,.inr rfl,rfl⟩,I,fun s hs=>ag s ((yb.2.2 1 s).1 hs),yb.2.1⟩
   apply y0
   rw[hY]
   refine(Dsk.sync_live a8 ?_).1
   rw[hW]
   exact(Dsk.write_live a6 hx hlv).2
 ·right
  rw[if_pos w0]at E
  have wb:=Ux a6 hx hd (by rw[←hW];exact w0)
  rw[←hW]at wb
  rw[E]
  refine⟨fun hlv=>?_,wb.1,⟨st,.inl rfl,rfl⟩,ac,ag,wb.2.1⟩
  apply w0
  rw[hW]
  exact(Dsk.write_live a6 hx hlv).1
end
def Qt(d p e q:Value)(sec:List UInt8)(L:Value):List Value:=[d,p,e,q,.string (str sec),L]
def ptr(b:Nat):Value:=.pointer (some ⟨b,0,none⟩)
theorem rp_eql(p o:Nat):aBin qd .eql 29 true (.pointer (some ⟨p,o,none⟩)) (.pointer none)=some (.bool false):=by kernel_rfl
theorem hp_eql(p o:Nat):aBin qd .eql 23 true (.pointer (some ⟨p,o,none⟩)) (.pointer none)=some (.bool false):=by kernel_rfl
theorem bb_eql:aBin qd .eql 4 false (.bool false) (.bool false)=some (.bool true):=by kernel_rfl
theorem PtrsAt.none{α:Type}{enc:α→List Value}{K:List Nat}{M M':Mem}{n:Nat}{vs:List Value}(h:PtrsAt enc K M (qc n none) vs):PtrsAt enc K M' (qc n none) vs:=
 ⟨h.len,fun i o hi=>by
  obtain⟨v,h1,h2⟩:=h.at_ i o hi
  rw[qk]at hi
  split at hi<;>cases hi
  exact⟨v,h1,h2⟩⟩
theorem DepAt.only0{M M':Mem}{P p q g:Nat}{d:Dsk}{key:List UInt8}{ep st:Int}(h:DepAt M P p q g d (Dp0 key ep st)){l:List Nat}(ho:Only l M M')(hP:P∉l)(hp:p∉l)(hq:q∉l)(hg:g∉l):DepAt M' P p q g d (Dp0 key ep st):=
 ⟨h.dsk.only ho hp hq hg,h.ok,by
  obtain⟨s,vo,vk,h1,h2,h3⟩:=h.row
  exact⟨s,vo,vk,ho _ _ hP h1,h2.none,h3.none⟩,h.ne⟩
structure HouseAt(M:Mem)(H p q g P n:Nat)(sec:List UInt8)(VL:Value):Prop where
 row:∃s e Q,M.get H=some (.cells false s (Qt (ptr p) (ptr P) (ptr e) (ptr Q) sec VL))∧∃s2 VO VK,M.get Q=some (.cells false s2 (Zg e (Sha.headKey sec) 1 VO VK))∧Q≠H∧Q∉ [P,p,q,g]
 dep:DepAt M P p q g (JQ n) (Dp0 (Sha.headKey sec) 1 0)
 ne:H∉ [P,p,q,g]
theorem hopen_spec{M:Mem}{H p q g e n bO bL bF s:Nat}{sec:List UInt8}{VL:Value}(hH:M.get H=some (.cells false s (Qt (ptr p) (.pointer none) (ptr e) (.pointer none) sec VL)))(hd:DskAt M p q g (Q9 n))(hr:RB M e n bO bL bF)
 (h13:13≤n) (hn:n≤1024) (hsec:sec.length≤100) (hne:H∉ [p,q,g]) (hHb:H∉ [bO,bL,bF]) (hb:bO∉ [p,q,g]∧bL∉ [p,q,g]∧bF∉ [p,q,g]∧e∉ [p,q,g]):
 Abs.Spec qd 26 [ptr H] M fun u M'=>∃P,u=.bool true∧HouseAt M' H p q g P n sec VL∧Only [H,p,q,g,bO,bL,bF] M M'∧M.size≤M'.size∧M.size≤P:=by
 obtain⟨key,E⟩:∃key,key=Sha.headKey sec:=⟨_,rfl⟩
 have q0:((0:Int)==0)=true:=rfl
 have ay:=Mem.get_lt hH
 obtain⟨_,_,gO⟩:=hr.1.old
 obtain⟨_,_,gF⟩:=hr.1.fresh
 obtain⟨_,gE⟩:=hr.1.row
 have lO:=Mem.get_lt gO
 have lL:=Mem.get_lt hr.2
 have lF:=Mem.get_lt gF
 have au:dp p=ptr p:=rfl
 have k0:∀s d p e q L,cellIn 0 (some (.cells false s (Qt d p e q sec L)))=some d:=fun _ _ _ _ _ _=>rfl
 have k2:∀s d p e q L,cellIn 2 (some (.cells false s (Qt d p e q sec L)))=some e:=fun _ _ _ _ _ _=>rfl
 have k4:∀s d p e q L,cellIn 4 (some (.cells false s (Qt d p e q sec L)))=some (.string (str sec)):=fun _ _ _ _ _ _=>rfl
 have ah:∀b,ptr b=.pointer (some ⟨b,0,none⟩):=fun _=>rfl
 have os:=open_spec M p q g (Q9 n) hd (str sec) (by rw[str_size];omega)
 rw[show(str sec).data.toList=sec from rfl,open_new n h13 hn _,←E]at os
 refine WM Tryz.func26 Tryz.results26 Tryz.ntmps26 fun _=>?_
 refine J0 (R0 ?_)
 refine J0 (CW_drawnG hmix [(8,9),(13,14)] (by kernel_rfl) ?_)
 simp only[zZ,reduceIte,yQ,yW,yX,yZ,yJ,yK,yV,zDk,Jc,Jb,J9,J8,Xx,Xh,JA,Q3,Qo,isVal,sGuardedV,Jx,JS,yY,Nat.sub_zero,ah,hH,k0,k4]
 refine⟨by kernel_rfl,_,os,?_⟩
 rintro _ M1 ⟨v,rfl,U,I,aJ⟩
 obtain⟨P,rfl,hP,ai⟩:=U
 have ab:=I H _ hne hH
 have al:RB M1 e n bO bL bF:=by
  obtain⟨⟨⟨s,a1⟩,⟨L,a2,a3⟩,_,⟨F,a6,a7⟩⟩,a8⟩:=hr
  have aa:=I _ _ hb.2.1 a8
  exact⟨⟨⟨s,I _ _ hb.2.2.2 a1⟩,⟨L,a2,I _ _ hb.1 a3⟩,⟨_,qy,aa⟩,⟨F,a6,I _ _ hb.2.2.1 a7⟩⟩,aa⟩
 simp only[zZ,reduceIte,yQ,yW,yX,yZ,yJ,yK,yV,zDk,Jc,Jb,J9,J8,Xx,Xh,JA,Q3,Qo,isVal,sGuardedV,Jx,JS,yY,Nat.sub_zero]
 refine J0 (CW_drawnG hmix [(8,9),(13,14)] (by kernel_rfl) ?_)
 simp only[zZ,reduceIte,yQ,yW,yX,yZ,yJ,yK,yV,zDk,Jc,Jb,J9,J8,Xx,Xh,JA,Q3,Qo,isVal,sGuardedV,Jx,JS,yY,Nat.sub_zero,ah,ab,k2,k4]
 refine⟨by kernel_rfl,_,ropen_spec al h13 hn sec (by omega),?_⟩
 rintro _ M2 ⟨Q,s2,VO,VK,rfl,gQ,hQ,Y,hs2⟩
 rw[←E]at gQ
 have pl:p<M.size:=by obtain⟨s,h⟩:=hd.row;exact Mem.get_lt h
 have ql:=Mem.get_lt hd.kv
 have gl:=Mem.get_lt hd.old
 have aj:DepAt M2 P p q g (JQ n) (Dp0 key 1 0):=DepAt.only0 ai Y (by simp;omega) (by simp at hb ⊢;omega) (by simp at hb ⊢;omega) (by simp at hb ⊢;omega)
 have ac:=Y H _ hHb ab
 have p1:Ji 1 M2 H 1 [.pointer (some ⟨P,0,none⟩)] (some (.cells false s (Qt (ptr p) (.pointer none) (ptr e) (.pointer none) sec VL)))=some (M2.set H (some (.cells false s (Qt (ptr p) (ptr P) (ptr e) (.pointer none) sec VL)))):=rfl
 obtain⟨Z,O⟩:∃Z,Z=M2.set H (some (.cells false s (Qt (ptr p) (ptr P) (ptr e) (.pointer none) sec VL))):=⟨_,rfl⟩
 have ad:Z.get H=some (.cells false s (Qt (ptr p) (ptr P) (ptr e) (.pointer none) sec VL)):=by rw[O];exact Mem.get_set_same ac _
 have p3:Ji 1 Z H 3 [.pointer (some ⟨Q,0,none⟩)] (some (.cells false s (Qt (ptr p) (ptr P) (ptr e) (.pointer none) sec VL)))=some (Z.set H (some (.cells false s (Qt (ptr p) (ptr P) (ptr e) (ptr Q) sec VL)))):=rfl
 have ag:∀b,(Value.pointer (some ⟨b,0,none⟩)).cells.toList=[.pointer (some ⟨b,0,none⟩)]:=fun _=>rfl
 simp only[zZ,reduceIte,yQ,yW,yX,yZ,yJ,yK,yV,zDk,Jc,Jb,J9,J8,Xx,Xh,JA,Q3,Qo,isVal,sGuardedV,Jx,JS,yY,Nat.sub_zero]
 refine J0 (R3 @ac @ag @p1 ?_)
 rw[←O]
 refine J0 (R3 @ad @ag @p3 ?_)
 refine J0 (R4 @q0 @pp_eql @rp_eql @bb_eql ?_)
 refine T0 ?_
 have aA:P≠H:=by omega
 have oH:∀b x,b≠H→M2.get b=some x→(Z.set H (some (.cells false s (Qt (ptr p) (ptr P) (ptr e) (ptr Q) sec VL)))).get b=some x:=fun b x hb hx=>by
  rw[Mem.get_set_ne (Ne.symm hb),O,Mem.get_set_ne (Ne.symm hb)];exact hx
 refine⟨_,tR _,P,⟨⟨s,e,Q,Mem.get_set_same ad _,s2,VO,VK,by rw[←E];exact oH Q _ (by omega) gQ,by omega,by have:=Mem.get_lt ai.row.choose_spec.choose_spec.choose_spec.1;simp;omega⟩,?_,by simp at hne ⊢;omega⟩,?_,by rw[Mem.size_set,O,Mem.size_set];omega,hP⟩
 ·rw[←E]
  exact aj.only0 (l:=[H]) (fun b x hb hx=>oH b x (by simpa using hb) hx) (by simp;omega) (by simp at hne ⊢;omega) (by simp at hne ⊢;omega) (by simp at hne ⊢;omega)
 ·intro b x ae hx
  simp at ae
  exact oH b x ae.1 (Y b x (by simp;omega) (I b x (by simp;omega) hx))
theorem built_spec(n:Nat)(h13:13≤n)(hn:n≤1024)(sec:List UInt8)(hsec:sec.length≤4000000000000000000)(T:List (List UInt8))(hT:T.length≤4000000000000000000)(hTs:∀t∈T,t.length≤4000000000000000000)(M:Mem)(v:Value)(h:StrsRd M v T):
 Abs.Spec qd 5 [.int .i64 (n:Nat),.string (str sec),v] M fun u M'=>∃H p q g P VL LA M1,u=ptr H∧HouseAt M' H p q g P n (sec.take 100) VL∧LA.map Prod.fst=Up (sec.take 100) T∧
  ArcsOwn M.size M1 VL LA∧(∀b x,M.get b=some x→M1.get b=some x)∧(∀b x,M1.get b=some x→M'.get b=some x)∧M.size≤M1.size∧M1.size≤H∧M1.size≤p∧M1.size≤q∧M1.size≤g∧M1.size≤P∧M1.size≤M'.size:=by
 have az:∀t,JC (str t)=t.length:=fun _=>rfl
 have q0:((0:Int) !=0)=false:=rfl
 have aU:∀b,ptr b=.pointer (some ⟨b,0,none⟩):=fun _=>rfl
 have ap:∀b,dp b=.pointer (some ⟨b,0,none⟩):=fun _=>rfl
 have ag:∀b,(Value.pointer (some ⟨b,0,none⟩)).cells.toList=[.pointer (some ⟨b,0,none⟩)]:=fun _=>rfl
 obtain⟨S,hS⟩:∃S,S=sec.take 100:=⟨_,rfl⟩
 have ay:S.length≤100:=by rw[hS,List.length_take];omega
 rw[←hS]
 refine WM Tryz.func5 Tryz.results5 Tryz.ntmps5 fun _=>?_
 refine J0 (R0 ?_)
 refine QB (fun f M'=>f=[(0,.int .i64 (n:Nat)),(1,.string (str S)),(2,v)]∧M'=M) ?_ ?_
 ·refine J0 (R1 @az ?_)
  refine CC (decide (((sec.length:Nat):Int)>100)) (fun hq=>J1 ?_) (fun hq=>J3 ?_)
  ·have hq:=of_decide_eq_true hq
   have sl:=fun get=>Zp get (str sec) 100 (by rw[str_size];omega)
   rw[show(str sec).data.toList=sec from rfl,←hS]at sl
   have aw:∀get,Q1 qd get 9 (.string (str sec)) none (some (.int .i64 100))=some (.string (str S)):=sl
   refine S1 @aw ?_
   refine JK [0,1,2] ?_
   exact⟨M,tR _,rfl⟩
  ·have hq:=of_decide_eq_false hq
   refine JK [0,1,2] ?_
   exact⟨M,tR _,by rw[hS,List.take_of_length_le (by omega)],rfl⟩
 rintro _ M9 ⟨rfl,e9⟩;replace e9:=e9.symm;subst e9
 refine J0 (R0 ?_)
 refine⟨by kernel_rfl,_,made_spec S (by omega) T hT hTs M v h,?_⟩
 rintro VL M1 ⟨LA,am,aa,ak⟩
 obtain⟨a,c,rfl⟩:=aa.1.len
 have bd:Qj qd 32 [(4,.string (str S)),(5,.slice a LA.length c)]=some (.agg (Qt (.pointer none) (.pointer none) (.pointer none) (.pointer none) S (.slice a LA.length c)).toArray):=by kernel_rfl
 have bx:QO qd 32 (.agg (Qt (.pointer none) (.pointer none) (.pointer none) (.pointer none) S (.slice a LA.length c)).toArray)=some (.cells false (J6 qd 32) (Qt (.pointer none) (.pointer none) (.pointer none) (.pointer none) S (.slice a LA.length c))):=bx_House _ rfl
 generalize J6 qd 32=s1 at bx
 obtain⟨VL,ah⟩:∃VL,VL=Value.slice a LA.length c:=⟨_,rfl⟩
 refine S2 @bd @bx ?_
 rw[←ah]
 obtain⟨H,hH⟩:∃H,H=M1.size:=⟨_,rfl⟩
 obtain⟨M2,O⟩:∃M2,M2=M1.push (.cells false s1 (Qt (.pointer none) (.pointer none) (.pointer none) (.pointer none) S VL)):=⟨_,rfl⟩
 have g2:M2.get H=some (.cells false s1 (Qt (.pointer none) (.pointer none) (.pointer none) (.pointer none) S VL)):=by rw[O,hH,Mem.get_push_new]
 have aG:M2.size=H+1:=by rw[O,Mem.size_push,hH]
 rw[←O,←hH]
 refine J0 (R0 ?_)
 refine⟨by kernel_rfl,_,new_spec M2 n (by omega) hn,?_⟩
 rintro _ M3 ⟨p,q,g,rfl,Z,hp,hq,hg,af,aP⟩
 refine S1 @ap ?_
 refine J0 (R0 ?_)
 refine⟨by kernel_rfl,_,rnew_spec n (by omega) hn M3,?_⟩
 rintro _ M4 ⟨e,bO,bL,bF,rfl,an,he,aX,aM,b6,U⟩
 have g4:=U.get _ _ (af H _ (by simp) g2)
 have p5:Ji 1 M4 H 0 [.pointer (some ⟨p,0,none⟩)] (some (.cells false s1 (Qt (.pointer none) (.pointer none) (.pointer none) (.pointer none) S VL)))=some (M4.set H (some (.cells false s1 (Qt (ptr p) (.pointer none) (.pointer none) (.pointer none) S VL)))):=rfl
 obtain⟨M5,Y⟩:∃M5,M5=M4.set H (some (.cells false s1 (Qt (ptr p) (.pointer none) (.pointer none) (.pointer none) S VL))):=⟨_,rfl⟩
 have g5:M5.get H=some (.cells false s1 (Qt (ptr p) (.pointer none) (.pointer none) (.pointer none) S VL)):=by rw[Y];exact Mem.get_set_same g4 _
 have p6:Ji 1 M5 H 2 [.pointer (some ⟨e,0,none⟩)] (some (.cells false s1 (Qt (ptr p) (.pointer none) (.pointer none) (.pointer none) S VL)))=some (M5.set H (some (.cells false s1 (Qt (ptr p) (.pointer none) (ptr e) (.pointer none) S VL)))):=rfl
 obtain⟨M6,I⟩:∃M6,M6=M5.set H (some (.cells false s1 (Qt (ptr p) (.pointer none) (ptr e) (.pointer none) S VL))):=⟨_,rfl⟩
 have g6:M6.get H=some (.cells false s1 (Qt (ptr p) (.pointer none) (ptr e) (.pointer none) S VL)):=by rw[I];exact Mem.get_set_same g5 _
 have E:∀b x,b≠H→M4.get b=some x→M6.get b=some x:=fun b x hb hx=>by
  rw[I,Mem.get_set_ne (Ne.symm hb),Y,Mem.get_set_ne (Ne.symm hb)];exact hx
 have aT:M6.size=M4.size:=by rw[I,Mem.size_set,Y,Mem.size_set]
 have aY:=U.size
 have pl:p<M3.size:=by obtain⟨s,h⟩:=Z.row;exact Mem.get_lt h
 have ql:=Mem.get_lt Z.kv
 have gl:=Mem.get_lt Z.old
 have au:DskAt M6 p q g (Q9 n):=(Z.same U.get).only (l:=[H]) (fun b x hb hx=>E b x (by simpa using hb) hx) (by simp;omega) (by simp;omega) (by simp;omega)
 have ar:RB M6 e n bO bL bF:=by
  obtain⟨⟨⟨s,a1⟩,⟨L,a2,a3⟩,_,⟨F,a6,a7⟩⟩,a8⟩:=an
  have ae:=E _ _ (by omega) a8
  exact⟨⟨⟨s,E _ _ (by omega) a1⟩,⟨L,a2,E _ _ (by omega) a3⟩,⟨_,qy,ae⟩,⟨F,a6,E _ _ (by omega) a7⟩⟩,ae⟩
 refine S0 ?_
 refine J0 (J0 (R1 @q0 ?_))
 refine CF (J3 ?_)
 refine S0 ?_
 refine J0 (R3 @g4 @ag @p5 ?_)
 rw[←Y]
 refine J0 (R3 @g5 @ag @p6 ?_)
 rw[←I]
 refine J0 (J0 (R0 ?_))
 refine⟨by kernel_rfl,_,hopen_spec g6 au ar h13 hn ay (by simp;omega) (by simp;omega) (by simp;omega),?_⟩
 rintro _ M7 ⟨P,rfl,ax,ao,aK,hP⟩
 refine S0 ?_
 refine CF (J3 ?_)
 refine S0 ?_
 refine J0 (R0 ?_)
 refine T0 ?_
 refine⟨_,tR _,H,p,q,g,P,VL,LA,M1,rfl,ax,am,by rw[ah];exact aa,ak.get,fun b x hx=>?_,ak.size,by omega,by omega,by omega,by omega,by omega,by omega⟩
 have lb:=Mem.get_lt hx
 refine ao b x (by simp;omega) (E b x (by omega) (U.get b x (af b x (by simp) ?_)))
 rw[O,Mem.get_push_old lb];exact hx
def Clean(d:Dsk):Prop:=∀i s,d.poss i s→s=d.sector i
theorem crash_clean(d:Dsk)(bits:Int):Clean (d.crash bits):=fun _ _ h=>(Dsk.crash_poss h).2
theorem sync_clean{d:Dsk}(hn:0<d.old.length)(h0:d.sync.2=0):Clean d.sync.1:=fun i s h=>by
 have h1:=Dsk.sync_done hn h0 h
 have hi:i<d.old.length:=by
  rw[Dsk.sync_eq hn]at h h0
  split at h0
  ·cases h0
  ·split at h0
   ·cases h0
   ·rename_i q1 q2
    rw[if_neg q1,if_neg q2]at h
    have:=(Dsk.synced_poss h).1
    rwa [Qp]at this
 rw[h1,Dsk.sync_sector hn hi]
def QU(a:Arc):List Bool:=qc a.head.n.toNat false
section
variable {key : List UInt8} {a : Arc} {ep st : Int} {G : List Bool}
theorem sure_falses(d:Dsk)(n:Nat):Sure a d (qc n false):=fun k b hk _=>by
 rw[qk]at hk
 split at hk<;>cases hk
theorem Kr(hk:ArcOk key a):((QU a).length:Int)=a.head.n:=by
 have:=Vq hk.may
 unfold QU
 rw[qy];omega
theorem begin_fresh(hk:ArcOk key a)(hl:a.blocks.length≤6){d:Dsk}(hn:20≤d.old.length)(hd:d.dead=false):Dep.begin d (Dp0 key ep st) a.head=Dep.begun d (Dp0 key ep st) a.head 0 13:=by
 have E:=Vq hk.may
 have h2:=hk.len
 unfold Dep.begin
 rw[if_neg (by rw[hd];decide),if_neg (by show¬a.head.verify key≠0;simp[hk.ver]),d0_head,if_neg (by simp),d0_places]
 have:X4 (Dp0 key ep st).opn 0=some 0:=rfl
 rw[this]
 show(match roomV 13 (d.old.length:Int) a.head.n []with|none=>_|some base=>_)=_
 rw[room_first _ a.head.n (by omega) (by omega) (by omega)]
theorem begin_under(hk:ArcOk key a){d:Dsk}(hd:d.dead=false):Dep.begin d (Zm key a ep st G) a.head=(d,Zm key a ep st G,0):=by
 unfold Dep.begin
 rw[if_neg (by rw[hd];decide),if_neg (by show¬a.head.verify key≠0;simp[hk.ver]),d1_head,if_pos rfl,if_pos rfl]
theorem sess_begin{e:Nat}{d:Dsk}{P:List Bool→Prop}(hk:ArcOk key a)(hl:a.blocks.length≤6)(h:Hist a d e P)(hc:Clean d)(h1:JN (d.sector 1)=[])(h5:JN (d.sector 5)=[])(hd:d.dead=false):
 (Dep.begin d (Dp0 key ep st) a.head).2.2=0∧(Dep.begin d (Dp0 key ep st) a.head).2.1=Zm key a ep st (QU a)∧Sess a e (Dep.begin d (Dp0 key ep st) a.head).1 (QU a) (QU a)∧(Dep.begin d (Dp0 key ep st) a.head).1.dead=false∧(d.live→(Dep.begin d (Dp0 key ep st) a.head).1.live)
 ∨¬d.live∧(Dep.begin d (Dp0 key ep st) a.head).2.2=7∧(Dep.begin d (Dp0 key ep st) a.head).2.1=Dp0 key ep st∧Hist a (Dep.begin d (Dp0 key ep st) a.head).1 e (fun X=>X=QU a)∧(Dep.begin d (Dp0 key ep st) a.head).1.dead=true:=by
 have a8:=h.n
 have hm:=Ku hk hl
 rw[begin_fresh hk hl a8 hd]
 obtain⟨W,U⟩:∃W,W=d.write ((1+0:Nat):Int) (XD a (QU a)):=⟨_,rfl⟩
 obtain⟨Y,hY⟩:∃Y,Y=W.1.sync:=⟨_,rfl⟩
 have E:Dep.begun d (Dp0 key ep st) a.head 0 13=(if W.2≠0 then(W.1,Dp0 key ep st,W.2)else if Y.2≠0 then(Y.1,Dp0 key ep st,Y.2)else(Y.1,Zm key a ep st (QU a),0)):=by
  rw[hY,U];rfl
 obtain⟨Z,hZ⟩:∃Z,Z=Dep.begun d (Dp0 key ep st) a.head 0 13:=⟨_,rfl⟩
 rw[←hZ]at E ⊢
 have hi:1+0<d.old.length:=by omega
 have hx:(XD a (QU a)).length≤256:=by unfold XD;rw[jouText_len hm];decide
 have a7:Hist a d e (fun X=>X=QU a):=⟨h.ok,h.n,h.s0,h.free,fun s hs=>.inl (by rw[hc 1 s hs];exact h1),fun s hs=>.inl (by rw[hc 5 s hs];exact h5)⟩
 have I:Hist a W.1 e (fun X=>X=QU a):=by rw[U];exact a7.record hx (.inr ⟨QU a,Kr hk,rfl,rfl,sure_falses _ _⟩)
 have O:0<W.1.old.length:=by have:=I.n;omega
 have wp:∀i t,W.1.poss i t→d.poss i t∨(i=1+0∧t=Jg (XD a (QU a))):=fun i t ht=>by rw[U]at ht;exact Dsk.write_poss hi hx ht
 by_cases w0:W.2=0
 ·rw[if_neg (by simp[w0])]at E
  have wa:=Dsk.write_alive hi hx (by rw[←U];exact w0)
  rw[←U]at wa
  have ws:W.1.sector 1=Jg (XD a (QU a)):=by rw[U];exact Uw hi hx (by rw[←U];exact w0)
  have a6:Hist a Y.1 e (fun X=>X=QU a):=by rw[hY];exact I.sync
  by_cases y0:Y.2=0
  ·left
   rw[if_neg (by simp[y0])]at E
   have ya:=sync_alive O (by rw[←hY];exact y0)
   rw[←hY]at ya
   rw[E]
   refine⟨rfl,rfl,⟨a6.weaken (qh _) fun X hX=>.inl hX,Kr hk,?_,sure_falses _ _,?_,?_⟩,ya.2,fun hlv=>?_⟩
   ·show Y.1.sector 1=_
    rw[hY,Dsk.sync_sector O (by have:=I.n;omega),ws]
   ·intro s hs
    have hs:Y.1.poss 1 s:=hs
    rw[hY]at hs
    right
    rw[Dsk.sync_done O (by rw[←hY];exact y0) hs,ws]
   ·intro s hs
    have hs:Y.1.poss 5 s:=hs
    rw[hY]at hs
    rcases wp 5 s (Dsk.sync_poss O hs)with q|⟨q,_⟩
    ·rw[hc 5 s q];exact h5
    ·omega
   ·show Y.1.live
    rw[hY]
    refine(Dsk.sync_live O ?_).2
    rw[U]
    exact(Dsk.write_live hi hx hlv).2
  ·right
   rw[if_pos y0]at E
   have yb:=sync_bad O wa.2 (by rw[←hY];exact y0)
   rw[←hY]at yb
   rw[E]
   refine⟨fun hlv=>?_,yb.1,rfl,a6,yb.2.1⟩
   apply y0
   rw[hY]
   refine(Dsk.sync_live O ?_).1
   rw[U]
   exact(Dsk.write_live hi hx hlv).2
 ·right
  rw[if_pos w0]at E
  have wb:=Ux hi hx hd (by rw[←U];exact w0)
  rw[←U]at wb
  rw[E]
  refine⟨fun hlv=>?_,wb.1,rfl,I,wb.2.1⟩
  apply w0
  rw[U]
  exact(Dsk.write_live hi hx hlv).1
theorem take_filled{b:List UInt8}(hb:b.length=224):(Jg b).take 224=b:=by unfold Jg;rw[←hb,List.take_left]
theorem blocks_sure(hk:ArcOk key a)(hl:a.blocks.length≤6){d:Dsk}(hn:20≤d.old.length)(hd:d.dead=false)(h:Sure a d (qc a.blocks.length true)):Qx d a.ext=(a.blocks,0):=by
 have h2:=hk.len
 have E:a.ext.head.n.toNat=a.blocks.length:=by show a.head.n.toNat=_;omega
 unfold Qx
 rw[if_neg (by rw[hd];simp),E]
 congr 1
 apply qx
 intro i
 rw[List.getElem?_map]
 by_cases hi:i<a.blocks.length
 ·have hb:a.blocks[i]?=some (a.blocks[i]):=qC hi
  rw[List.getElem?_range hi,hb,qE]
  congr 1
  have:=h i (a.blocks[i]) (by rw[qk,if_pos hi]) hb (d.sector (13+i)) (Dsk.poss_sector (by omega))
  show(d.sector (13+i)).take 224=_
  rw[this,take_filled (hk.size _ (List.getElem_mem hi))]
 ·rw[List.getElem?_eq_none (by simp;omega),List.getElem?_eq_none (by omega)]
  rfl
theorem free_d1:X4 (Zm key a ep st G).kept 0=some 0:=rfl
theorem sess_commit{e:Nat}{d:Dsk}{Gp:List Bool}(hk:ArcOk key a)(hl:a.blocks.length≤6)(hG:G=qc a.blocks.length true)(h:Sess a e d Gp G)(hd:d.dead=false):
 (Dep.commit d (Zm key a ep st G) a.head.id).2.2=0∧(Dep.commit d (Zm key a ep st G) a.head.id).2.1=Dp2 key a ep st∧Hist a (Dep.commit d (Zm key a ep st G) a.head.id).1 e (fun _=>True)∧(∀s,(Dep.commit d (Zm key a ep st G) a.head.id).1.poss 5 s→s=Jg (Jy a.ext))∧
  Sure a (Dep.commit d (Zm key a ep st G) a.head.id).1 (qc a.blocks.length true)∧(Dep.commit d (Zm key a ep st G) a.head.id).1.dead=false∧(d.live→(Dep.commit d (Zm key a ep st G) a.head.id).1.live)
 ∨¬d.live∧(Dep.commit d (Zm key a ep st G) a.head.id).2.2=7∧Hist a (Dep.commit d (Zm key a ep st G) a.head.id).1 e (fun _=>True):=by
 have ah:=h.hist.n
 have hm:=Ku hk hl
 have I:=h.sure
 rw[hG]at I
 obtain⟨W,hW⟩:∃W,W=d.write ((5+0:Nat):Int) (Jy a.ext):=⟨_,rfl⟩
 obtain⟨Y,hY⟩:∃Y,Y=W.1.sync:=⟨_,rfl⟩
 obtain⟨U,hU⟩:∃U,U=Y.1.write ((1+0:Nat):Int) []:=⟨_,rfl⟩
 have E:Dep.commit d (Zm key a ep st G) a.head.id=(if W.2≠0 then(W.1,Zm key a ep st G,W.2)else if Y.2≠0 then(Y.1,Zm key a ep st G,Y.2)else(U.1,Dp2 key a ep st,U.2)):=by
  unfold Dep.commit
  rw[if_neg (by rw[hd];decide),d1_ext,d1_rec]
  simp only
  rw[if_neg (by rw[hG];simp),blocks_sure hk hl ah hd I]
  simp only
  rw[if_neg (by show¬str (UG a.blocks)≠a.head.root;rw[hk.root];simp),free_d1]
  simp only
  have ae:Dep.keep d (Zm key a ep st G) 0 a.ext=(if W.2≠0 then(W.1,Zm key a ep st G,W.2)else if Y.2≠0 then(Y.1,Zm key a ep st G,Y.2)else(Y.1,{ Zm key a ep st G with kept:=(Zm key a ep st G).kept.set 0 (some a.ext) },0)):=by rw[hY,hW];rfl
  rw[ae]
  by_cases w0:W.2=0
  ·by_cases y0:Y.2=0
   ·simp only[w0,y0,ne_eq,not_true_eq_false,if_false]
    rw[hU]
    rfl
   ·simp only[w0,y0,ne_eq,not_true_eq_false,not_false_eq_true,if_false,if_true]
  ·simp only[w0,ne_eq,not_false_eq_true,if_true]
 obtain⟨Z,hZ⟩:∃Z,Z=Dep.commit d (Zm key a ep st G) a.head.id:=⟨_,rfl⟩
 rw[←hZ]at E ⊢
 have hi:5+0<d.old.length:=by omega
 have hx:(Jy a.ext).length≤256:=by rw[catText_len hm];decide
 have af:Hist a d e (fun _=>True):=h.hist.weaken (qh _) fun _ _=>trivial
 have a2:Hist a W.1 e (fun _=>True):=by rw[hW];exact af.cat hx I
 have a6:0<W.1.old.length:=by have:=a2.n;omega
 have wp:∀i t,W.1.poss i t→d.poss i t∨(i=5+0∧t=Jg (Jy a.ext)):=fun i t ht=>by rw[hW]at ht;exact Dsk.write_poss hi hx ht
 by_cases w0:W.2=0
 ·rw[if_neg (by simp[w0])]at E
  have wa:=Dsk.write_alive hi hx (by rw[←hW];exact w0)
  rw[←hW]at wa
  have ws:W.1.sector 5=Jg (Jy a.ext):=by rw[hW];exact Uw hi hx (by rw[←hW];exact w0)
  have O:Hist a Y.1 e (fun _=>True):=by rw[hY];exact a2.sync
  by_cases y0:Y.2=0
  ·rw[if_neg (by simp[y0])]at E
   have ya:=sync_alive a6 (by rw[←hY];exact y0)
   rw[←hY]at ya
   have y5:∀s,Y.1.poss 5 s→s=Jg (Jy a.ext):=fun s hs=>by
    rw[hY]at hs
    rw[Dsk.sync_done a6 (by rw[←hY];exact y0) hs,ws]
   have ab:1+0<Y.1.old.length:=by have:=O.n;omega
   have a7:([]:List UInt8).length≤256:=by decide
   have up:∀i t,U.1.poss i t→Y.1.poss i t∨(i=1+0∧t=Jg []):=fun i t ht=>by rw[hU]at ht;exact Dsk.write_poss ab a7 ht
   have ac:Hist a U.1 e (fun _=>True):=by rw[hU];exact O.record a7 (.inl rfl)
   have ag:Sure a Y.1 (qc a.blocks.length true):=by
    rw[hY]
    refine(I.less (d':=W.1) fun i t hi ht=>?_).less fun i t hi ht=>.inl (Dsk.sync_poss a6 ht)
    rcases wp i t ht with q|⟨q,_⟩
    ·exact .inl q
    ·omega
   by_cases u0:U.2=0
   ·left
    have ua:=Dsk.write_alive ab a7 (by rw[←hU];exact u0)
    rw[←hU]at ua
    rw[E]
    refine⟨u0,rfl,ac,fun s hs=>?_,?_,ua.2,fun hlv=>?_⟩
    ·rcases up 5 s hs with q|⟨q,_⟩
     ·exact y5 s q
     ·omega
    ·refine ag.less fun i t hi ht=>?_
     rcases up i t ht with q|⟨q,_⟩
     ·exact .inl q
     ·omega
    ·show U.1.live
     rw[hU]
     refine(Dsk.write_live ab a7 ?_).2
     rw[hY]
     refine(Dsk.sync_live a6 ?_).2
     rw[hW]
     exact(Dsk.write_live hi hx hlv).2
   ·right
    have ub:=Ux ab a7 ya.2 (by rw[←hU];exact u0)
    rw[←hU]at ub
    rw[E]
    refine⟨fun hlv=>?_,ub.1,ac⟩
    apply u0
    rw[hU]
    refine(Dsk.write_live ab a7 ?_).1
    rw[hY]
    refine(Dsk.sync_live a6 ?_).2
    rw[hW]
    exact(Dsk.write_live hi hx hlv).2
  ·right
   rw[if_pos y0]at E
   have yb:=sync_bad a6 wa.2 (by rw[←hY];exact y0)
   rw[←hY]at yb
   rw[E]
   refine⟨fun hlv=>?_,yb.1,O⟩
   apply y0
   rw[hY]
   refine(Dsk.sync_live a6 ?_).1
   rw[hW]
   exact(Dsk.write_live hi hx hlv).2
 ·right
  rw[if_pos w0]at E
  have wb:=Ux hi hx hd (by rw[←hW];exact w0)
  rw[←hW]at wb
  rw[E]
  refine⟨fun hlv=>?_,wb.1,a2⟩
  apply w0
  rw[hW]
  exact(Dsk.write_live hi hx hlv).1
end
section
variable {key : List UInt8} {a : Arc}
theorem epoch_len(k:Int):(Jm k).length≤256:=by unfold Jm;rw[List.length_append,Sha.fixed_length];decide
theorem next_live{d:Dsk}(hok:d.Ok)(hlv:d.live){k:Nat}(h1:1≤k)(h2:k<4294967295)(hs:d.sector 0=Jg (Jm k)):
 ∃d',d.nextE 0=(d',(k:Int)+1,0)∧d'.live∧d'.Ok∧d'.old.length=d.old.length∧Clean d'∧(∀i,d'.sector i=if i=0 then Jg (Jm ((k:Int)+1))else if i<d.old.length then d.sector i else d'.sector i)∧∀i s,d'.poss i s→d.poss i s∨(i=0∧s=Jg (Jm ((k:Int)+1))):=by
 have E:=hok.pos
 have hl:d.lastE 0=((k:Int),0):=by
  unfold Dsk.lastE Dsk.may
  rw[if_pos (by rw[if_neg (by rw[hlv.1];decide),if_neg (by omega)])]
  show lastV (d.sector 0)=_
  rw[hs,lastV_text k h1 (by omega)]
 have hx:=epoch_len ((k:Int)+1)
 obtain⟨W,O⟩:∃W,W=d.write ((0:Nat):Int) (Jm ((k:Int)+1)):=⟨_,rfl⟩
 obtain⟨Y,U⟩:∃Y,Y=W.1.sync:=⟨_,rfl⟩
 have w:=Dsk.write_live E hx hlv
 rw[←O]at w
 have Z:W.1.old.length=d.old.length:=by rw[O,Dsk.write_old E hx]
 have I:0<W.1.old.length:=by omega
 have y:=Dsk.sync_live I w.2
 rw[←U]at y
 refine⟨Y.1,?_,y.2,?_,?_,?_,fun i=>?_,fun i s h=>?_⟩
 ·unfold Dsk.nextE
  rw[hl,if_neg (by simp),if_neg (by simp only;omega)]
  simp only
  rw[show d.write 0 (Jm ((k:Int)+1))=W from O.symm,←U,if_neg (by simp[w.1]),if_neg (by simp[y.1])]
 ·rw[U];exact Dsk.sync_ok (by rw[O];exact Dsk.write_ok hok E hx)
 ·rw[U,Dsk.sync_len I,Z]
 ·rw[U];exact sync_clean I (by rw[←U];exact y.1)
 ·by_cases e:i=0
  ·rw[if_pos e,e,U,Dsk.sync_sector I I,O]
   exact Uw E hx (by rw[←O];exact w.1)
  ·rw[if_neg e]
   by_cases hi:i<d.old.length
   ·rw[if_pos hi,U,Dsk.sync_sector I (by omega),O,Dsk.write_sector E hx (by rw[←O];exact w.1),if_neg e]
   ·rw[if_neg hi]
 ·rw[U]at h
  have:=Dsk.sync_poss I h
  rw[O]at this
  exact Dsk.write_poss E hx this
theorem Hist.epoch{e k:Nat}{d d':Dsk}{P:List Bool→Prop}(h:Hist a d e P)(hok:d'.Ok)(hn:d'.old.length=d.old.length)(hke:k≤e)(hp:∀i s,d'.poss i s→d.poss i s∨(i=0∧s=Jg (Jm ((k:Int)+1)))):Hist a d' (e+1) P:=by
 have old:∀i s,i≠0→d'.poss i s→d.poss i s:=fun i s hi hs=>(hp i s hs).resolve_right fun q=>hi q.1
 have hs:∀G,Sure a d G→Sure a d' G:=fun G hG=>hG.less fun i t hi ht=>.inl (old i t (by omega) ht)
 refine⟨hok,(by rw[hn];exact h.n),fun s q=>?_,fun i hi s q=>h.free i hi s (old i s (by omega) q),fun s q=>(h.s1 s (old 1 s (by decide) q)).imp id fun⟨G,a1,a2,a3,a4⟩=>⟨G,a1,a2,a3,hs G a4⟩,fun s q=>(h.s5 s (old 5 s (by decide) q)).imp id fun⟨a1,a2⟩=>⟨a1,hs _ a2⟩⟩
 rcases hp 0 s q with q|⟨_,rfl⟩
 ·obtain⟨j,I,h2,E⟩:=h.s0 s q
  exact⟨j,I,by omega,E⟩
 ·exact⟨k+1,by omega,by omega,rfl⟩
theorem fits_self(hk:ArcOk key a)(hl:a.blocks.length≤6){N:Nat}(hN:20≤N):Z3 key N [] a.ext=true:=by
 have:=hk.len
 unfold Z3
 simp only[Bool.and_eq_true,decide_eq_true_eq,List.any_nil,Bool.not_false,and_true]
 exact⟨⟨hk.ver,by show(13:Int)≤13;decide⟩,by show(13:Int)+a.head.n≤(N:Int);omega⟩
theorem fits_twice(x:Ext)(key:List UInt8)(n:Nat):Z3 key n [x] x=false:=by
 unfold Z3
 simp[VR]
theorem kept_cat(hk:ArcOk key a)(hl:a.blocks.length≤6){d:Dsk}(hn:20≤d.old.length)(h5:d.sector 5=Jg (Jy a.ext))(h:∀i,6≤i→i≤12→JN (d.sector i)=[]):∀k,1≤k→k≤8→Jp d key k=some a.ext::qc 7 none
 |0,h1,_=>by omega
 |1,_,_=>by
  show(Jp d key 0).set 0 (XJ d key (Jp d key 0) 0)=_
  have:XJ d key (Jp d key 0) 0=some a.ext:=by
   unfold XJ
   rw[show 5+0=5 from rfl,h5,catTake_text (Ku hk hl)]
   rw[if_pos ⟨rfl,by show Z3 key d.old.length (Qs (qc 8 none) []) a.ext=true;exact fits_self hk hl hn⟩]
  rw[this]
  rfl
 |k+2,_,h8=>by
  show(Jp d key (k+1)).set (k+1) (XJ d key (Jp d key (k+1)) (k+1))=_
  rw[kept_cat hk hl hn h5 h (k+1) (by omega) (by omega)]
  have:XJ d key (some a.ext::qc 7 none) (k+1)=none:=by
   unfold XJ
   rw[Ut (h (5+(k+1)) (by omega) (by omega)),if_neg (by simp)]
  rw[this]
  exact set_same (by rw[List.getElem?_cons_succ,qk,if_pos (by omega)])
theorem opn_rec(hk:ArcOk key a)(hl:a.blocks.length≤6){d:Dsk}{G:List Bool}(hG:(G.length:Int)=a.head.n)(hn:20≤d.old.length)(h1:d.sector 1=Jg (XD a G))(h:∀i,2≤i→i≤4→JN (d.sector i)=[]):∀k,1≤k→k≤4→Jl key (qc 8 none) d k=(d,some ⟨a.ext,G⟩::qc 3 none,0)
 |0,h1,_=>by omega
 |1,_,_=>by
  show Xd key (qc 8 none) d (qc 4 none) 0=_
  unfold Xd
  rw[show 1+0=1 from rfl,h1]
  unfold XD
  rw[jouTake_text (r:=⟨a.ext,G⟩) (Ku hk hl) hG]
  rw[if_pos ⟨rfl,by show Z3 key d.old.length (Qs (qc 8 none) (qc 4 none)) a.ext=true;exact fits_self hk hl hn⟩]
  rfl
 |k+2,_,h4=>by
  show(if(Jl key (qc 8 none) d (k+1)).2.2≠0 then Jl key (qc 8 none) d (k+1)else Xd key (qc 8 none) (Jl key (qc 8 none) d (k+1)).1 (Jl key (qc 8 none) d (k+1)).2.1 (k+1))=_
  rw[opn_rec hk hl hG hn h1 h (k+1) (by omega) (by omega),if_neg (by simp)]
  unfold Xd
  rw[V6 (h (1+(k+1)) (by omega) (by omega)),if_neg (by simp),if_neg (by simp)]
theorem opn_kept(hk:ArcOk key a)(hl:a.blocks.length≤6){d:Dsk}(hok:d.Ok)(hlv:d.live)(hn:20≤d.old.length)(h1:JN (d.sector 1)=[]∨∃G,(G.length:Int)=a.head.n∧d.sector 1=Jg (XD a G))(h:∀i,2≤i→i≤4→JN (d.sector i)=[]):
 ∃d',(∀k,1≤k→k≤4→Jl key (some a.ext::qc 7 none) d k=(d',qc 4 none,0))∧d'.live∧(d'=d∨d'=(d.write ((1:Nat):Int) []).1):=by
 have hi:1<d.old.length:=by omega
 have hx:([]:List UInt8).length≤256:=by decide
 have first:∃d',Xd key (some a.ext::qc 7 none) d (qc 4 none) 0=(d',qc 4 none,0)∧d'.live∧(d'=d∨d'=(d.write ((1:Nat):Int) []).1):=by
  rcases h1 with h1|⟨G,U,h1⟩
  ·refine⟨d,?_,hlv,.inl rfl⟩
   unfold Xd
   rw[V6 (s:=d.sector (1+0)) h1,if_neg (by simp),if_neg (by simp)]
  ·have w:=Dsk.write_live hi hx hlv
   refine⟨_,?_,w.2,.inr rfl⟩
   unfold Xd
   rw[show 1+0=1 from rfl,h1]
   unfold XD
   rw[jouTake_text (r:=⟨a.ext,G⟩) (Ku hk hl) U,if_neg,if_pos (by simp),w.1]
   rintro⟨_,q⟩
   have:Qs (some a.ext::qc 7 none) (qc 4 none)=[a.ext]:=rfl
   rw[this]at q
   have:=fits_twice a.ext key d.old.length
   rw[q]at this
   cases this
 obtain⟨d',h2,O,I⟩:=first
 refine⟨d',fun k=>?_,O,I⟩
 have E:∀i,2≤i→i≤4→JN (d'.sector i)=[]:=fun i q1 q2=>by
  rcases I with rfl|rfl
  ·exact h i q1 q2
  ·rw[Dsk.write_sector hi hx (Dsk.write_live hi hx hlv).1,if_neg (by omega)];exact h i q1 q2
 induction k with
 |zero=>intro q;omega
 |succ k ih=>
  intro _ Y
  cases k with
  |zero=>
   exact h2
  |succ k=>
   show(if(Jl key (some a.ext::qc 7 none) d (k+1)).2.2≠0 then Jl key (some a.ext::qc 7 none) d (k+1)else Xd key (some a.ext::qc 7 none) (Jl key (some a.ext::qc 7 none) d (k+1)).1 (Jl key (some a.ext::qc 7 none) d (k+1)).2.1 (k+1))=_
   rw[ih (by omega) (by omega),if_neg (by simp)]
   unfold Xd
   rw[V6 (E (1+(k+1)) (by omega) (by omega)),if_neg (by simp),if_neg (by simp)]
structure Reopened(key:List UInt8)(a:Arc)(e:Nat)(P:List Bool→Prop)(d d':Dsk)(D:Dep):Prop where
 hist:Hist a d' (e+1) P
 clean:Clean d'
 live:d'.live
 how:(JN (d.sector 5)=[]∧JN (d.sector 1)=[]∧(∃ep,D=Dp0 key ep 0)∧JN (d'.sector 1)=[]∧JN (d'.sector 5)=[])∨
  (∃G,JN (d.sector 5)=[]∧d.sector 1=Jg (XD a G)∧P G∧(∃ep,D=Zm key a ep 0 G)∧Sess a (e+1) d' G G)∨
  (d.sector 5=Jg (Jy a.ext)∧(∃ep,D=Dp2 key a ep 0)∧Sure a d' (qc a.blocks.length true))
theorem reopen{e:Nat}{d:Dsk}{P:List Bool→Prop}(hk:ArcOk key a)(hl:a.blocks.length≤6)(h:Hist a d e P)(hlv:d.live)(hc:Clean d)(he:e<4294967295):
 ∃d' D,openD d key=(d',some D,0)∧Reopened key a e P d d' D:=by
 have hn:=h.n
 have ps:∀i,i<20→d.poss i (d.sector i):=fun i hi=>Dsk.poss_sector (by omega)
 obtain⟨k,k1,k2,k3⟩:=h.s0 _ (ps 0 (by decide))
 have af:∀i,2≤i→i≤4→JN (d.sector i)=[]:=fun i h1 h2=>h.free i (by omega) _ (ps i (by omega))
 have aa:∀i,6≤i→i≤12→JN (d.sector i)=[]:=fun i h1 h2=>h.free i (by omega) _ (ps i (by omega))
 have I:∀(K:List (Option Ext))(O:List (Option Rec))(d1 U:Dsk)(n:Int),Jp d key 8=K→Jl key K d 4=(d1,O,0)→d1.nextE 0=(U,n,0)→openD d key=(U,some ⟨key,n,O,K,0⟩,0):=fun K O d1 U n h1 h2 h3=>by
  unfold openD
  rw[if_neg (by omega),if_neg (by rw[hlv.1];decide),h1,h2]
  simp only[ne_eq,not_true_eq_false,if_false,h3]
 rcases h.s5 _ (ps 5 (by decide))with s5|⟨s5,Y⟩
 ·have a6:Jp d key 8=qc 8 none:=kept_blank (fun i hi=>by
   by_cases e:i=0
   ·subst e;exact s5
   ·exact aa (5+i) (by omega) (by omega)) 8 (qh _)
  obtain⟨U,e2,a7,ah,n2,c2,a8,p2⟩:=next_live h.ok hlv k1 (by omega) k3
  have E:Hist a U (e+1) P:=h.epoch ah n2 k2 p2
  have sec:∀i,1≤i→i<20→U.sector i=d.sector i:=fun i q1 q2=>by rw[a8 i,if_neg (by omega),if_pos (by omega)]
  rcases h.s1 _ (ps 1 (by decide))with s1|⟨G,g1,g2,g3,g4⟩
  ·have ad:Jl key (qc 8 none) d 4=(d,qc 4 none,0):=opn_blank (fun i hi=>by
    by_cases e:i=0
    ·subst e;exact s1
    ·exact af (1+i) (by omega) (by omega)) 4 (qh _)
   exact⟨U,_,I _ _ _ _ _ a6 ad e2,E,c2,a7,.inl ⟨s5,s1,⟨_,rfl⟩,by rw[sec 1 (by decide) (by decide)];exact s1,by rw[sec 5 (by decide) (by decide)];exact s5⟩⟩
  ·have ad:=opn_rec hk hl g1 hn g3 af 4 (by decide) (qh _)
   have Z:Sure a U G:=g4.less fun i t hi ht=>.inl ((p2 i t ht).resolve_right fun q=>by omega)
   refine⟨U,_,I _ _ _ _ _ a6 ad e2,E,c2,a7,.inr (.inl ⟨G,s5,g3,g2,⟨_,rfl⟩,?_⟩)⟩
   refine⟨⟨E.ok,E.n,E.s0,E.free,fun s q=>.inr ⟨G,g1,.inl rfl,?_,Z⟩,fun s q=>.inl ?_⟩,g1,?_,Z,fun s q=>.inl ?_,fun s q=>?_⟩
   ·rw[c2 1 s q,sec 1 (by decide) (by decide),g3]
   ·rw[c2 5 s q,sec 5 (by decide) (by decide)];exact s5
   ·rw[sec 1 (by decide) (by decide),g3];rfl
   ·rw[c2 1 s q,sec 1 (by decide) (by decide),g3];rfl
   ·rw[c2 5 s q,sec 5 (by decide) (by decide)];exact s5
 ·have a6:=kept_cat hk hl hn s5 aa 8 (by decide) (qh _)
  obtain⟨d1,ho,ao,ai⟩:=opn_kept hk hl h.ok hlv hn ((h.s1 _ (ps 1 (by decide))).imp id fun⟨G,g1,_,g3,_⟩=>⟨G,g1,g3⟩) af
  have hi:1<d.old.length:=by omega
  have hx:([]:List UInt8).length≤256:=by decide
  have a2:Hist a d1 e P:=by
   rcases ai with rfl|rfl
   ·exact h
   ·exact h.record hx (.inl rfl)
  have ag:Sure a d1 (qc a.blocks.length true):=by
   rcases ai with rfl|rfl
   ·exact Y
   ·exact Y.less fun i t q ht=>.inl ((Dsk.write_poss hi hx ht).resolve_right fun q=>by omega)
  have s0:d1.sector 0=Jg (Jm (k:Int)):=by
   rcases ai with rfl|rfl
   ·exact k3
   ·rw[Dsk.write_sector hi hx (Dsk.write_live hi hx hlv).1,if_neg (by decide)];exact k3
  obtain⟨U,e2,a7,ah,n2,c2,a8,p2⟩:=next_live a2.ok ao k1 (by omega) s0
  have E:Hist a U (e+1) P:=a2.epoch ah n2 k2 p2
  exact⟨U,_,I _ _ _ _ _ a6 (ho 4 (by decide) (qh _)) e2,E,c2,a7,.inr (.inr ⟨s5,⟨_,rfl⟩,ag.less fun i t hi ht=>.inl ((p2 i t ht).resolve_right fun q=>by omega)⟩)⟩
theorem hist_new(N:Nat)(hN:20≤N)(hN2:N≤1024)(a:Arc)(P:List Bool→Prop):Hist a (JQ N) 1 P∧Clean (JQ N)∧(JQ N).live∧JN ((JQ N).sector 1)=[]∧JN ((JQ N).sector 5)=[]:=by
 have I:∀i s,(JQ N).poss i s→(i=0∧s=Jg (Jm 1))∨(1≤i∧i<N∧s=zeroS):=fun i s h=>by
  rcases h with h|h
  ·cases i with
   |zero=>left;exact⟨rfl,(Option.some.inj h).symm⟩
   |succ i=>
    have h:(qc (N-1) zeroS)[i]?=some s:=h
    rw[qk]at h
    split at h
    ·right;exact⟨by omega,by omega,(Option.some.inj h).symm⟩
    ·cases h
  ·simp[JQ,Jt]at h
 have E:∀i,1≤i→i<N→(JQ N).sector i=zeroS:=fun i h1 h2=>by
  obtain⟨k,rfl⟩:∃k,i=k+1:=⟨i-1,by omega⟩
  unfold Dsk.sector JQ
  simp only[Jt,List.find?_nil,Option.map_none,Option.getD_none,List.getElem?_cons_succ,qk]
  rw[if_pos (by omega)]
  rfl
 have O:(JQ N).Ok:=by
  have Y:(Jg (Jm 1)).length=256:=by decide+kernel
  refine⟨by simp[JQ];omega,by simp[JQ],fun s hs=>?_,by simp[JQ],by simp[JQ],by simp[JQ],by simp[JQ],⟨by show(-1:Int)≤ -1;decide,by show(-1:Int)≤_;decide⟩,trivial⟩
  unfold JQ at hs
  simp only[qq,List.mem_replicate]at hs
  rcases hs with rfl|⟨_,rfl⟩
  ·exact Y
  ·exact qy
 refine⟨⟨O,by simp[JQ];omega,fun s h=>?_,fun i hi s h=>?_,fun s h=>.inl ?_,fun s h=>.inl ?_⟩,fun i s h=>?_,⟨rfl,rfl⟩,?_,?_⟩
 ·rcases I 0 s h with⟨_,rfl⟩|⟨q,_⟩
  ·exact⟨1,by decide,by decide,rfl⟩
  ·omega
 ·rcases I i s h with⟨q,_⟩|⟨_,_,rfl⟩
  ·omega
  ·exact Zb
 ·rcases I 1 s h with⟨q,_⟩|⟨_,_,rfl⟩
  ·omega
  ·exact Zb
 ·rcases I 5 s h with⟨q,_⟩|⟨_,_,rfl⟩
  ·omega
  ·exact Zb
 ·rcases I i s h with⟨rfl,rfl⟩|⟨Z,U,rfl⟩
  ·rfl
  ·rw[E i Z U]
 ·rw[E 1 (by decide) (by omega)];exact Zb
 ·rw[E 5 (by decide) (by omega)];exact Zb
end
end Go.Proofs.YthohbneadomgdaaGreatDoor
namespace Go.Proofs.YthohbneadomgdaaGreatDoor
open Go.RowKit Abs Stab
def Vp(h:Ext):Int:=h.base
def SmallE(L:List Ext):Prop:=∀h∈L, -1099511627776≤h.base∧h.base≤1099511627776
theorem exl_len(h:Ext):h.cells.length=8:=rfl
theorem exl_one(h:Ext):Jo h.cells=true:=rfl
def V1(M:Mem)(g:Nat)(L:List Ext):Prop:=M.get g=some (.cells false 8 (L.flatMap Ext.cells))
theorem exl_row{M:Mem}{g:Nat}{L:List Ext}(h:V1 M g L){k:Nat}{x:Ext}(hx:L[k]?=some x):Ju 8 (k*8) (M.get g)=some (.agg x.cells.toArray):=by
 rw[show M.get g=_ from h]
 exact rowIn_at (n:=8) (fun a _=>exl_len a) hx false 8
theorem exl_put{M:Mem}{g:Nat}{L:List Ext}(h:V1 M g L){k:Nat}{x:Ext}(hx:L[k]?=some x)(y:Ext):∃M',Ji 8 M g (k*8) y.cells (M.get g)=some M'∧V1 M' g (L.set k y)∧Only [g] M M'∧M'.size=M.size:=by
 refine⟨_,?_,Mem.get_set_same h _,Only.set (by simp) _,Mem.size_set _ _ _⟩
 rw[show M.get g=_ from h]
 exact putIn_at (fun a _=>exl_len a) hx y (exl_len y) (exl_one y) M g 8
def cmpE:Value:=.func (.func 72) #[] #[]
theorem cmpe_spec(a b:Ext)(ha: -1099511627776≤a.base∧a.base≤1099511627776)(hb: -1099511627776≤b.base∧b.base≤1099511627776)(m:Mem):
 Abs.Spec qd 72 [.agg a.cells.toArray,.agg b.cells.toArray] m fun u M=>u=.int .i64 (a.base-b.base)∧M=m:=by
 refine Abs.Spec.of_empty (by intro x hx;simp at hx;rcases hx with rfl|rfl<;>rfl) rfl ?_ m
 have w:IntKind.i64.wrap (a.base-b.base)=a.base-b.base:=Xn (by omega) (by omega)
 have I:QO qd 85 (.agg a.cells.toArray)=some (.cells false (J6 qd 85) a.cells):=Kv _ rfl
 have E:QO qd 85 (.agg b.cells.toArray)=some (.cells false (J6 qd 85) b.cells):=Kv _ rfl
 generalize J6 qd 85=s1 at I E
 have U:∀h:Ext,cellIn 7 (some (.cells false s1 h.cells))=some (.int .i64 h.base):=fun h=>rfl
 have Y:(((⟨[]⟩:Mem).push (.cells false s1 a.cells)).push (.cells false s1 b.cells)).get (⟨[]⟩:Mem).size=some (.cells false s1 a.cells):=rfl
 have O:(((⟨[]⟩:Mem).push (.cells false s1 a.cells)).push (.cells false s1 b.cells)).get ((⟨[]⟩:Mem).push (.cells false s1 a.cells)).size=some (.cells false s1 b.cells):=rfl
 refine WM Tryz.func72 Tryz.results72 Tryz.ntmps72 fun _=>?_
 refine J0 (R2 @I @E ?_)
 refine J0 (R4 @Y @O @U @w ?_)
 refine T0 ?_
 first|exact⟨_,tR _,rfl⟩|exact⟨_,tR _⟩|exact⟨_,tR _,rfl,rfl⟩
theorem swap_adjE(P Q:List Ext)(x y:Ext):((P++y::x::Q).set (P.length+1) y).set P.length x=P++x::y::Q:=by
 rw[List.set_append_right _ _ (by omega),show P.length+1-P.length=1 by omega,List.set_cons_succ,List.set_cons_zero,set_mid]
theorem at_midE(P Q:List Ext)(x:Ext):(P++x::Q)[P.length]?=some x:=by simp
theorem at_midE1(P Q:List Ext)(x y:Ext):(P++y::x::Q)[P.length+1]?=some x:=by
 rw[List.getElem?_append_right (by omega)]
 simp
theorem inse_spec(g n c:Nat)(M:Mem)(A X B:List Ext)(hg:V1 M g (A++X++B))(hn:(A++X++B).length=n)(hn2:n≤1000000)(hs:SmallE (A++X++B)):
 Abs.Spec qd 185 [.slice (some ⟨g,0,none⟩) n c,.int .i64 (A.length:Nat),.int .i64 ((A.length+X.length:Nat):Int),cmpE] M
  fun u M'=>u=.tuple #[]∧(∃R,Stable Vp X R∧V1 M' g (A++R++B))∧Only [g] M M'∧M'.size=M.size:=by
 unfold cmpE
 refine K5 Tryz.func185 Tryz.results185 Tryz.ntmps185 fun hc hx k=>?_
 have ae:A.length+X.length+B.length=n:=by rw[←hn];simp only[qe]
 have w0:IntKind.i64.wrap (((A.length:Nat):Int)+1)=((A.length+1:Nat):Int):=by rw[Xn (by omega) (by omega)];omega
 refine J0 (R1 @w0 ?_)
 refine J7 (Jr (fun j f M'=>∃(i:Nat)(R Q:List Ext),j=n+1-i∧f=[(0,.slice (some ⟨g,0,none⟩) n c),(1,.int .i64 (A.length:Nat)),(2,.int .i64 ((A.length+X.length:Nat):Int)),(3,.func (.func 72) #[] #[]),(8,.int .i64 (i:Nat))]∧
  i≤n+1∧((i=A.length+R.length∧R≠ [])∨(X=[]∧i=A.length+1))∧(∃X1,X=X1++Q∧Stable Vp X1 R)∧V1 M' g (A++R++Q++B)∧Only [g] M M'∧M'.size=M.size) (n+1-(A.length+1)) ?_ ?_)
 ·refine JK [0,1,2,3,8] ?_
  cases hX:X with
  |nil=>exact⟨M,tR _,A.length+1,[],[],rfl,by simp,by omega,.inr ⟨rfl,rfl⟩,⟨[],rfl,Stable.refl _ qm.nil⟩,by rw[hX]at hg;simpa using hg,Only.refl _ _,rfl⟩
  |cons x Q=>exact⟨M,tR _,A.length+1,[x],Q,rfl,by simp,by rw[hX]at ae;simp only[qD]at ae;omega,.inl ⟨rfl,by simp⟩,⟨[x],rfl,Stable.refl _ (List.pairwise_singleton _ _)⟩,by rw[hX]at hg;simpa using hg,Only.refl _ _,rfl⟩
 ·rintro j f M' ⟨i,R,Q,rfl,rfl,hi,ao,⟨X1,E,U⟩,aj,ho,av⟩
  refine J0 (J0 (R0 ?_))
  refine CC (decide ((i:Int)<((A.length+X.length:Nat):Int))) (fun h=>J3 ?_) (fun h=>Jn ?_)
  ·have h:=of_decide_eq_true h
   obtain⟨al,aL⟩:i=A.length+R.length∧R≠ []:=by
    rcases ao with h1|⟨h1,h2⟩
    ·exact h1
    ·rw[h1,qw]at h;omega
   have aC:=U.len
   obtain⟨x,Q',rfl⟩:∃x Q',Q=x::Q':=by
    cases Q with
    |nil=>rw[E,qo]at h;omega
    |cons x Q'=>exact⟨x,Q',rfl⟩
   have aP:X.length=X1.length+(Q'.length+1):=by rw[E];simp
   have ar:∀y,y∈R∨y=x→ -1099511627776≤y.base∧y.base≤1099511627776:=fun y hy=>hs y (by
    rw[E]
    rcases hy with hy|rfl
    ·rw[U.mem]at hy;simp[hy]
    ·simp)
   simp only[zZ,reduceIte,yQ,yW,yX,yZ,yJ,yK,yV]
   refine QB (fun f O=>∃I,f=[(0,.slice (some ⟨g,0,none⟩) n c),(1,.int .i64 (A.length:Nat)),(2,.int .i64 ((A.length+X.length:Nat):Int)),(3,.func (.func 72) #[] #[]),(8,.int .i64 (i:Nat))]∧Stable Vp (X1++[x]) I∧V1 O g (A++I++Q'++B)∧Only [g] M O∧O.size=M.size) ?_ ?_
   ·refine J7 (J0 (R0 ?_))
    refine J7 (Jr (fun jj f O=>∃(j:Nat)(R1 I:List Ext),jj=j∧f=[(0,.slice (some ⟨g,0,none⟩) n c),(1,.int .i64 (A.length:Nat)),(2,.int .i64 ((A.length+X.length:Nat):Int)),(3,.func (.func 72) #[] #[]),(8,.int .i64 (i:Nat)),(9,.int .i64 (j:Nat))]∧
     R=R1++I∧j=A.length+R1.length∧(∀y∈I,x.base<y.base)∧V1 O g (A++R1++x::I++Q'++B)∧Only [g] M O∧O.size=M.size) i ?_ ?_)
    ·refine JK [0,1,2,3,8,9] ?_
     exact⟨M',tR _,i,R,[],rfl,rfl,by simp,al,by simp,by simpa using aj,ho,av⟩
    ·rintro j f O ⟨_,R1,I,rfl,rfl,a2,hj,an,Y,ab,a8⟩
     have done:(∀y∈R1,y.base≤x.base)→∀(f:AL),AL.get f 0=some (.slice (some ⟨g,0,none⟩) n c)→AL.get f 1=some (.int .i64 (A.length:Nat))→AL.get f 2=some (.int .i64 ((A.length+X.length:Nat):Int))→AL.get f 3=some (.func (.func 72) #[] #[])→AL.get f 8=some (.int .i64 (i:Nat))→
      @JoinM f O ⟨fun f O=>∃I,f=[(0,.slice (some ⟨g,0,none⟩) n c),(1,.int .i64 (A.length:Nat)),(2,.int .i64 ((A.length+X.length:Nat):Int)),(3,.func (.func 72) #[] #[]),(8,.int .i64 (i:Nat))]∧Stable Vp (X1++[x]) I∧V1 O g (A++I++Q'++B)∧Only [g] M O∧O.size=M.size⟩:=fun hle f h0 h1 h2 h3 h8=>by
      refine⟨[0,1,2,3,8],?_⟩
      simp only[keepF,h0,h1,h2,h3,h8,zZ,reduceIte,yQ,yW,yX,yZ,yJ,yK,yV]
      have Z:Stable Vp (R++[x]) (R1++x::I):=by
       rw[a2]
       exact Kl Vp (by rw[←a2];exact U.rising) (fun y hy=>hle y hy) (fun y hy=>an y hy)
      have am:Stable Vp (X1++[x]) (R1++x::I):=Z.of_keys Vp (fun k=>by rw[Xu,Xu,U.keys]) (by simp[U.len])
      exact⟨O,tR _,R1++x::I,am,by simpa using Y,ab,a8⟩
     refine J0 (J0 (QG hmix 14 (by kernel_rfl) (by kernel_rfl) ?_))
     rcases List.eq_nil_or_concat R1 with rfl|⟨ac,y,rfl⟩
     ·have q1:decide ((A.length:Int)<(j:Int))=false:=decide_eq_false (by rw[hj];simp)
      refine S1 @q1 ?_
      refine CF (Jn ?_)
      simp only[zZ,reduceIte,yQ,yW,yX,yZ,yJ,yK,yV]
      exact done (by simp) _ rfl rfl rfl rfl rfl
     ·obtain⟨P,hP⟩:∃P,P=A++ac:=⟨_,rfl⟩
      obtain⟨T,hT⟩:∃T,T=I++Q'++B:=⟨_,rfl⟩
      have hL:A++ac.concat y++x::I++Q'++B=P++y::x::T:=by rw[hP,hT];simp
      rw[hL]at Y
      have ad:j=P.length+1:=by rw[hj,hP];simp;omega
      have aV:P.length+1<n:=by
       have e:=congrArg List.length a2
       simp only[qe,List.length_concat]at e
       rw[hP,qe]
       omega
      have q1:decide ((A.length:Int)<(j:Int))=true:=decide_eq_true (by rw[ad,hP,qe];omega)
      have r1:=exl_row Y (at_midE1 P T x y)
      have r0:=exl_row Y (at_midE P (x::T) y)
      have w1:IntKind.i64.wrap ((j:Int)-1)=((P.length:Nat):Int):=by rw[Xn (by omega) (by omega)];omega
      have z1:(0:Int)≤(j:Int):=by omega
      have z2:(j:Int)<(n:Int):=by omega
      have z3:(0:Int)≤((P.length:Nat):Int):=by omega
      have z4:((P.length:Nat):Int)<(n:Int):=by omega
      rw[←ad]at r1
      refine S9 @q1 @w1 @z1 @z2 @z3 @z4 @and_self @r0 @r1 ?_
      have sx:=ar x (.inr rfl)
      have sy:=ar y (.inl (by rw[a2];simp))
      refine⟨by kernel_rfl,_,cmpe_spec x y sx sy O,?_⟩
      rintro _ M9 ⟨rfl,e9⟩;replace e9:=e9.symm;subst e9
      refine⟨by decide,?_⟩
      refine S0 ?_
      refine CC (decide (x.base-y.base<0)) (fun h=>J3 ?_) (fun h=>Jn ?_)
      ·have h:=of_decide_eq_true h
       obtain⟨M3,aF,aw,ax,aS⟩:=exl_put Y (show(P++y::x::T)[j]?=some x by rw[ad];exact at_midE1 P T x y) y
       have aE:((P++y::x::T).set j y)[P.length]?=some y:=by
        rw[qA (by omega)];exact at_midE P (x::T) y
       obtain⟨M4,aB,au,aA,aQ⟩:=exl_put aw aE x
       rw[ad,swap_adjE]at au
       simp only[zZ,reduceIte,yQ,yW,yX,yZ,yJ,yK,yV]
       refine J0 (J7 (CW_draw4 hmix 15 [2,3,4] (by kernel_rfl) ?_))
       simp only[sQB,Zy,Option.bind_some,zZ,reduceIte,yQ,yW,yX,yZ,yJ,yK,yV,zDk,Jc,Jb,J9,J8,Xx,w1,z1,z2,z3,z4,and_self,r0,r1,aF,aB]
       refine⟨⟨⟨_,rfl⟩,⟨_,rfl⟩,⟨_,rfl⟩⟩,?_⟩
       refine R1 @w1 ?_
       refine JK [0,1,2,3,8,9] ?_
       refine⟨M4,tR _,P.length,⟨P.length,ac,y::I,rfl,rfl,by rw[a2];simp,by rw[hP,qe],?_,?_,ab.trans (ax.trans aA),by omega⟩,by omega⟩
       ·intro z hz
        rcases qq.1 hz with rfl|hz
        ·omega
        ·exact an z hz
       ·have e:A++ac++x::(y::I)++Q'++B=P++x::y::T:=by rw[hP,hT];simp
        rw[e];exact au
      ·have h:=of_decide_eq_false h
       simp only[zZ,reduceIte,yQ,yW,yX,yZ,yJ,yK,yV]
       refine done (fun z hz=>?_) _ rfl rfl rfl rfl rfl
       have hr:=U.rising
       rw[a2]at hr
       have hr:=(Rising.parts Vp hr).1
       rw[List.concat_eq_append]at hr hz
       rcases qF.1 hz with hz|hz
       ·have:=(Rising.parts Vp hr).2.2 z hz y (by simp)
        unfold Vp at this
        omega
       ·simp only[qJ]at hz
        rw[hz];omega
   ·rintro _ O ⟨I,rfl,Z,Y,ab,a8⟩
    have ai:=Z.len
    have w1:IntKind.i64.wrap ((i:Int)+1)=((i+1:Nat):Int):=by rw[Xn (by omega) (by omega)];omega
    refine R1 @w1 ?_
    refine JK [0,1,2,3,8] ?_
    refine⟨O,tR _,n+1-(i+1),⟨i+1,I,Q',rfl,rfl,by omega,.inl ⟨?_,?_⟩,⟨X1++[x],by rw[E];simp,Z⟩,Y,ab,a8⟩,by omega⟩
    ·rw[ai,al];simp;omega
    ·intro e;rw[e]at ai;simp at ai
  ·have h:=of_decide_eq_false h
   have aC:=U.len
   have hQ:Q=[]:=by
    rcases ao with⟨h1,h2⟩|⟨h1,h2⟩
    ·have:Q.length=0:=by rw[E,qe]at h;omega
     exact qf this
    ·rw[h1]at E;exact(List.append_eq_nil_iff.1 E.symm).2
   simp only[zZ,reduceIte,yQ,yW,yX,yZ,yJ,yK,yV,zDk,Jc,Jb,J9,J8,Xx,mEnd,sAnswer,sAnswer.sRes]
   rw[hQ,qo]at aj E
   exact⟨M',tR _,⟨R,by rw[E];exact U,aj⟩,ho,av⟩
theorem blen_spec(x:Int)(h0:0≤x)(h1:x≤18446744073709551615)(m:Mem):
 Abs.Spec qd 104 [.int .u64 x] m fun u M=>u=.int .i64 (Lib.bitLen x.toNat)∧M=m:=
 Abs.Spec.of_flat (by simp[flat]) rfl fun w=>(Tryz.bits_Len x w h0 h1).mono fun e w' h=>⟨h.1,by rw[h.2];exact Below.refl _ _⟩
theorem pdqe_spec(g n c:Nat)(lim:Int)(M:Mem)(L:List Ext)(hg:V1 M g L)(hn:L.length=n)(hn2:n≤12)(hs:SmallE L):
 Abs.Spec qd 128 [.slice (some ⟨g,0,none⟩) n c,.int .i64 0,.int .i64 (n:Nat),.int .i64 lim,cmpE] M
  fun u M'=>u=.tuple #[]∧(∃R,Stable Vp L R∧V1 M' g R)∧Only [g] M M'∧M'.size=M.size:=by
 unfold cmpE
 refine K5 Tryz.func128 Tryz.results128 Tryz.ntmps128 fun hc hx k=>?_
 have Z:IntKind.i64.wrap ((n:Int)-0)=(n:Int):=by rw[Xn (by omega) (by omega)];omega
 have U:decide ((n:Int)≤12)=true:=decide_eq_true (by omega)
 have is:=inse_spec g n c M [] L [] (by simpa using hg) (by simpa using hn) (by omega) (by simpa using hs)
 simp only[qw,qG,hn,qB,qo]at is
 unfold cmpE at is
 refine J0 (R0 ?_)
 refine J0 (R0 ?_)
 refine J7 (Jr (fun j f M'=>j=0∧f=[(0,.slice (some ⟨g,0,none⟩) n c),(1,.int .i64 0),(2,.int .i64 (n:Nat)),(4,.func (.func 72) #[] #[])]∧M'=M) 0 ?_ ?_)
 ·refine JK [0,1,2,4] ?_
  exact⟨M,tR _,rfl⟩
 ·rintro j f M' ⟨rfl,rfl,E⟩
  replace E:=E.symm;subst E
  refine J7 (J0 (R1 @Z ?_))
  refine J0 (J0 (R1 @U ?_))
  refine CT (J0 (R0 ?_))
  refine⟨by kernel_rfl,_,is,?_⟩
  rintro _ M2 ⟨rfl,Y,O,I⟩
  refine S0 ?_
  refine T0 ?_
  exact⟨_,tR _,Y,O,I⟩
theorem sorte_spec(g n c:Nat)(M:Mem)(L:List Ext)(hg:V1 M g L)(hn:L.length=n)(hn2:n≤12)(hs:SmallE L):
 Abs.Spec qd 71 [.slice (some ⟨g,0,none⟩) n c,cmpE] M
  fun u M'=>u=.tuple #[]∧(∃R,Stable Vp L R∧V1 M' g R)∧Only [g] M M'∧M'.size=M.size:=by
 unfold cmpE
 refine K5 Tryz.func71 Tryz.results71 Tryz.ntmps71 fun hc hx k=>?_
 have O:=fun m=>blen_spec (n:Int) (by omega) (by omega) m
 have Y:IntKind.u64.wrap (n:Int)=(n:Int):=by unfold IntKind.wrap;simp[IntKind.bits,IntKind.signed];omega
 have pq:=fun lim=>pdqe_spec g n c lim M L hg hn hn2 hs
 unfold cmpE at pq
 refine J0 (R0 ?_)
 refine R1 @Y ?_
 refine K0 (O _) ?_
 refine⟨by kernel_rfl,_,pq _,?_⟩
 rintro _ Z ⟨rfl,U,I,E⟩
 simp only[zZ,reduceIte,yQ,yW,yX,yZ,yJ,yK,yV,zDk,Jc,Jb,J9,J8,Xx,mEnd,sAnswer,sAnswer.sRes]
 exact⟨_,tR _,U,I,E⟩
theorem new_ext0:JF qd 82 0 []=some (.cells false 8 []):=by kernel_rfl
theorem es_eql0(cx:Bool):aBin qd .eql 82 cx (.slice none 0 0) (.slice none 0 0)=some (.bool true):=by cases cx<;>kernel_rfl
theorem es_eql(cx:Bool)(a:Addr)(n c:Nat):aBin qd .eql 82 cx (.slice (some a) n c) (.slice none 0 0)=some (.bool false):=by cases cx<;>kernel_rfl
theorem eclone_spec(K:Nat)(M:Mem)(V:Value)(L:List Ext)(h:Vy K M V L)(hl:L.length≤1000000):
 Abs.Spec qd 70 [V] M fun u M'=>Vy M.size M' u L∧Only [] M M'∧M.size≤M'.size:=by
 refine K5 Tryz.func70 Tryz.results70 Tryz.ntmps70 fun hc hx k=>?_
 refine J0 (R0 ?_)
 rcases h with⟨rfl,rfl⟩|⟨Z,g,a6,rfl,Y⟩
 ·refine J0 (J0 (R1 @es_eql0 ?_))
  refine CT (J0 (R0 ?_))
  refine T0 ?_
  exact⟨M,tR _,.inl ⟨rfl,rfl⟩,Only.refl _ _,qh _⟩
 ·refine J0 (J0 (R1 @es_eql ?_))
  refine CF (J3 ?_)
  simp only[zZ,reduceIte,yQ,yW,yX,yZ,yJ,yK,yV]
  have O:=Mem.get_lt Y
  have a2:=List.length_pos_iff.2 Z
  have I:=Ext_bytes
  have E:=src_block (P:=qd) (tx:=82) (m:=M.push (.cells false 8 [])) (c:=L.length) (k:=L.length) (N:=8) (news:=L.flatMap Ext.cells) (ro:=false) (s:=8) Tryz.underlying82 (by rw[Mem.get_push_old O];exact Y) (by rw[flat_length (fun a=>ext_len a)])
  have U:=gapp (P:=qd) (N:=8) (k:=L.length) (n:=0) (g:=M.size) (cs:=[]) (news:=L.flatMap Ext.cells) Tryz.underlying82 inf_Ext Ext_zero sz_Ext rfl (M.push (.cells false 8 [])) E (by omega)
   (Mem.get_push_new M _) rfl (by rw[qG];have:=Nat.mul_le_mul hl I;omega) (by omega)
  rw[Mem.size_push,qG,qB]at U
  refine J0 (R2 @new_ext0 @U ?_)
  refine T0 ?_
  refine⟨_,tR _,.inr ⟨Z,M.size+1,by omega,rfl,?_⟩,fun b y _ hy=>?_,by simp only[Mem.size_push,Mem.size_set];omega⟩
  ·have:=Mem.get_push_new ((M.push (.cells false 8 [])).set M.size none) (.cells false 8 (L.flatMap Ext.cells))
   rw[Mem.size_set,Mem.size_push]at this
   exact this
  ·have:=Mem.get_lt hy
   rw[Mem.get_push_old (by rw[Mem.size_set,Mem.size_push];omega),Mem.get_set_ne (by omega),Mem.get_push_old this];exact hy
theorem inse_nil(M:Mem):
 Abs.Spec qd 185 [.slice none 0 0,.int .i64 0,.int .i64 0,cmpE] M fun u M'=>u=.tuple #[]∧M'=M:=by
 unfold cmpE
 refine K5 Tryz.func185 Tryz.results185 Tryz.ntmps185 fun hc hx k=>?_
 have O:IntKind.i64.wrap ((0:Int)+1)=1:=by decide
 have I:decide ((1:Int)<0)=false:=rfl
 refine J0 (R1 @O ?_)
 refine J7 (Jr (fun j f M'=>j=0∧f=[(0,.slice none 0 0),(1,.int .i64 0),(2,.int .i64 0),(3,.func (.func 72) #[] #[]),(8,.int .i64 1)]∧M'=M) 0 ?_ ?_)
 ·refine JK [0,1,2,3,8] ?_
  exact⟨M,tR _,rfl⟩
 ·rintro j f M' ⟨rfl,rfl,E⟩
  replace E:=E.symm;subst E
  refine J0 (J0 (R2 @I @decide_false ?_))
  refine CF (Jn ?_)
  simp only[zZ,reduceIte,yQ,yW,yX,yZ,yJ,yK,yV,zDk,Jc,Jb,J9,J8,Xx,mEnd,sAnswer,sAnswer.sRes]
  exact⟨_,tR _,rfl⟩
theorem pdqe_nil(lim:Int)(M:Mem):
 Abs.Spec qd 128 [.slice none 0 0,.int .i64 0,.int .i64 0,.int .i64 lim,cmpE] M fun u M'=>u=.tuple #[]∧M'=M:=by
 have is:=inse_nil M
 unfold cmpE at is ⊢
 refine K5 Tryz.func128 Tryz.results128 Tryz.ntmps128 fun hc hx k=>?_
 have O:IntKind.i64.wrap ((0:Int)-0)=0:=by decide
 have I:decide ((0:Int)≤12)=true:=rfl
 refine J0 (R0 ?_)
 refine J0 (R0 ?_)
 refine J7 (Jr (fun j f M'=>j=0∧f=[(0,.slice none 0 0),(1,.int .i64 0),(2,.int .i64 0),(4,.func (.func 72) #[] #[])]∧M'=M) 0 ?_ ?_)
 ·refine JK [0,1,2,4] ?_
  exact⟨M,tR _,rfl⟩
 ·rintro j f M' ⟨rfl,rfl,E⟩
  replace E:=E.symm;subst E
  refine J7 (J0 (R1 @O ?_))
  refine J0 (J0 (R2 @I @decide_true ?_))
  refine CT (J0 (R0 ?_))
  refine⟨by kernel_rfl,_,is,?_⟩
  rintro _ U ⟨rfl,rfl⟩
  refine S0 ?_
  refine T0 ?_
  exact⟨_,tR _,rfl⟩
theorem sorte_nil(M:Mem):
 Abs.Spec qd 71 [.slice none 0 0,cmpE] M fun u M'=>u=.tuple #[]∧M'=M:=by
 have pq:=fun lim=>pdqe_nil lim M
 unfold cmpE at pq ⊢
 refine K5 Tryz.func71 Tryz.results71 Tryz.ntmps71 fun hc hx k=>?_
 have E:=fun m=>blen_spec 0 (by omega) (by omega) m
 have I:IntKind.u64.wrap 0=0:=by decide
 refine J0 (R0 ?_)
 refine R1 @I ?_
 refine K0 (E _) ?_
 refine⟨by kernel_rfl,_,pq _,?_⟩
 rintro _ O ⟨rfl,rfl⟩
 simp only[zZ,reduceIte,yQ,yW,yX,yZ,yJ,yK,yV,zDk,Jc,Jb,J9,J8,Xx,mEnd,sAnswer,sAnswer.sRes]
 exact⟨_,tR _,rfl⟩
theorem sorte_own(K:Nat)(M:Mem)(V:Value)(L:List Ext)(h:Vy K M V L)(hl:L.length≤12)(hs:SmallE L):
 Abs.Spec qd 71 [V,cmpE] M
  fun u M'=>u=.tuple #[]∧(∃R,Stable Vp L R∧Vy K M' V R)∧(∀b y,QK V≠some b→M.get b=some y→M'.get b=some y)∧M'.size=M.size:=by
 rcases h with⟨rfl,rfl⟩|⟨h0,g,Z,rfl,hg⟩
 ·refine(sorte_nil M).mono ?_
  rintro u M' ⟨rfl,rfl⟩
  exact⟨rfl,⟨[],Stable.refl _ qm.nil,OwnL.nil _ _⟩,fun _ _ _ h=>h,rfl⟩
 ·refine(sorte_spec g L.length L.length M L hg rfl hl hs).mono ?_
  rintro u M' ⟨rfl,⟨R,U,I⟩,Y,O⟩
  have E:=U.len
  refine⟨rfl,⟨R,U,.inr ⟨fun e=>h0 (qf (by rw[←E,e];rfl)),g,Z,by rw[E],I⟩⟩,fun b y hb hy=>Y b y (by simp;exact fun e=>hb (by rw[e];rfl)) hy,O⟩
def hid(h:Header):Int:=h.id
def SmallH(L:List Header):Prop:=∀h∈L, -1099511627776≤h.id∧h.id≤1099511627776
theorem hdl_len(h:Header):h.cells.length=7:=rfl
theorem hdl_one(h:Header):Jo h.cells=true:=rfl
def ZZ(M:Mem)(g:Nat)(L:List Header):Prop:=M.get g=some (.cells false 7 (L.flatMap Header.cells))
theorem hdl_row{M:Mem}{g:Nat}{L:List Header}(h:ZZ M g L){k:Nat}{x:Header}(hx:L[k]?=some x):Ju 7 (k*7) (M.get g)=some (.agg x.cells.toArray):=by
 rw[show M.get g=_ from h]
 exact rowIn_at (n:=7) (fun a _=>hdl_len a) hx false 7
theorem hdl_put{M:Mem}{g:Nat}{L:List Header}(h:ZZ M g L){k:Nat}{x:Header}(hx:L[k]?=some x)(y:Header):∃M',Ji 7 M g (k*7) y.cells (M.get g)=some M'∧ZZ M' g (L.set k y)∧Only [g] M M'∧M'.size=M.size:=by
 refine⟨_,?_,Mem.get_set_same h _,Only.set (by simp) _,Mem.size_set _ _ _⟩
 rw[show M.get g=_ from h]
 exact putIn_at (fun a _=>hdl_len a) hx y (hdl_len y) (hdl_one y) M g 7
def cmpH(cf:FuncId):Value:=.func (.func cf) #[] #[]
def CmpOk(cf:FuncId):Prop:=Qg qd cf=true∧∀a b:Header,(-1099511627776≤a.id∧a.id≤1099511627776)→(-1099511627776≤b.id∧b.id≤1099511627776)→∀m,
    Abs.Spec qd cf [.agg a.cells.toArray,.agg b.cells.toArray] m fun u M=>u=.int .i64 (a.id-b.id)∧M=m
theorem swap_adjH(P Q:List Header)(x y:Header):((P++y::x::Q).set (P.length+1) y).set P.length x=P++x::y::Q:=by
 rw[List.set_append_right _ _ (by omega),show P.length+1-P.length=1 by omega,List.set_cons_succ,List.set_cons_zero,set_mid]
theorem at_midH(P Q:List Header)(x:Header):(P++x::Q)[P.length]?=some x:=by simp
theorem at_midH1(P Q:List Header)(x y:Header):(P++y::x::Q)[P.length+1]?=some x:=by
 rw[List.getElem?_append_right (by omega)]
 simp
theorem insh_spec(cf:FuncId)(hcf:CmpOk cf)(g n c:Nat)(M:Mem)(A X B:List Header)(hg:ZZ M g (A++X++B))(hn:(A++X++B).length=n)(hn2:n≤1000000)(hs:SmallH (A++X++B)):
 Abs.Spec qd 151 [.slice (some ⟨g,0,none⟩) n c,.int .i64 (A.length:Nat),.int .i64 ((A.length+X.length:Nat):Int),cmpH cf] M
  fun u M'=>u=.tuple #[]∧(∃R,Stable hid X R∧ZZ M' g (A++R++B))∧Only [g] M M'∧M'.size=M.size:=by
 unfold cmpH
 refine K5 Tryz.func151 Tryz.results151 Tryz.ntmps151 fun hc hx k=>?_
 have ae:A.length+X.length+B.length=n:=by rw[←hn];simp only[qe]
 have w0:IntKind.i64.wrap (((A.length:Nat):Int)+1)=((A.length+1:Nat):Int):=by rw[Xn (by omega) (by omega)];omega
 refine J0 (R1 @w0 ?_)
 refine J7 (Jr (fun j f M'=>∃(i:Nat)(R Q:List Header),j=n+1-i∧f=[(0,.slice (some ⟨g,0,none⟩) n c),(1,.int .i64 (A.length:Nat)),(2,.int .i64 ((A.length+X.length:Nat):Int)),(3,.func (.func cf) #[] #[]),(8,.int .i64 (i:Nat))]∧
  i≤n+1∧((i=A.length+R.length∧R≠ [])∨(X=[]∧i=A.length+1))∧(∃X1,X=X1++Q∧Stable hid X1 R)∧ZZ M' g (A++R++Q++B)∧Only [g] M M'∧M'.size=M.size) (n+1-(A.length+1)) ?_ ?_)
 ·refine JK [0,1,2,3,8] ?_
  cases hX:X with
  |nil=>exact⟨M,tR _,A.length+1,[],[],rfl,by simp,by omega,.inr ⟨rfl,rfl⟩,⟨[],rfl,Stable.refl _ qm.nil⟩,by rw[hX]at hg;simpa using hg,Only.refl _ _,rfl⟩
  |cons x Q=>exact⟨M,tR _,A.length+1,[x],Q,rfl,by simp,by rw[hX]at ae;simp only[qD]at ae;omega,.inl ⟨rfl,by simp⟩,⟨[x],rfl,Stable.refl _ (List.pairwise_singleton _ _)⟩,by rw[hX]at hg;simpa using hg,Only.refl _ _,rfl⟩
 ·rintro j f M' ⟨i,R,Q,rfl,rfl,hi,ao,⟨X1,E,U⟩,aj,ho,av⟩
  refine J0 (J0 (R0 ?_))
  refine CC (decide ((i:Int)<((A.length+X.length:Nat):Int))) (fun h=>J3 ?_) (fun h=>Jn ?_)
  ·have h:=of_decide_eq_true h
   obtain⟨al,aL⟩:i=A.length+R.length∧R≠ []:=by
    rcases ao with h1|⟨h1,h2⟩
    ·exact h1
    ·rw[h1,qw]at h;omega
   have aC:=U.len
   obtain⟨x,Q',rfl⟩:∃x Q',Q=x::Q':=by
    cases Q with
    |nil=>rw[E,qo]at h;omega
    |cons x Q'=>exact⟨x,Q',rfl⟩
   have aP:X.length=X1.length+(Q'.length+1):=by rw[E];simp
   have ar:∀y,y∈R∨y=x→ -1099511627776≤y.id∧y.id≤1099511627776:=fun y hy=>hs y (by
    rw[E]
    rcases hy with hy|rfl
    ·rw[U.mem]at hy;simp[hy]
    ·simp)
   simp only[zZ,reduceIte,yQ,yW,yX,yZ,yJ,yK,yV]
   refine QB (fun f O=>∃I,f=[(0,.slice (some ⟨g,0,none⟩) n c),(1,.int .i64 (A.length:Nat)),(2,.int .i64 ((A.length+X.length:Nat):Int)),(3,.func (.func cf) #[] #[]),(8,.int .i64 (i:Nat))]∧Stable hid (X1++[x]) I∧ZZ O g (A++I++Q'++B)∧Only [g] M O∧O.size=M.size) ?_ ?_
   ·refine J7 (J0 (R0 ?_))
    refine J7 (Jr (fun jj f O=>∃(j:Nat)(R1 I:List Header),jj=j∧f=[(0,.slice (some ⟨g,0,none⟩) n c),(1,.int .i64 (A.length:Nat)),(2,.int .i64 ((A.length+X.length:Nat):Int)),(3,.func (.func cf) #[] #[]),(8,.int .i64 (i:Nat)),(9,.int .i64 (j:Nat))]∧
     R=R1++I∧j=A.length+R1.length∧(∀y∈I,x.id<y.id)∧ZZ O g (A++R1++x::I++Q'++B)∧Only [g] M O∧O.size=M.size) i ?_ ?_)
    ·refine JK [0,1,2,3,8,9] ?_
     exact⟨M',tR _,i,R,[],rfl,rfl,by simp,al,by simp,by simpa using aj,ho,av⟩
    ·rintro j f O ⟨_,R1,I,rfl,rfl,a2,hj,an,Y,ab,a8⟩
     have done:(∀y∈R1,y.id≤x.id)→∀(f:AL),AL.get f 0=some (.slice (some ⟨g,0,none⟩) n c)→AL.get f 1=some (.int .i64 (A.length:Nat))→AL.get f 2=some (.int .i64 ((A.length+X.length:Nat):Int))→AL.get f 3=some (.func (.func cf) #[] #[])→AL.get f 8=some (.int .i64 (i:Nat))→
      @JoinM f O ⟨fun f O=>∃I,f=[(0,.slice (some ⟨g,0,none⟩) n c),(1,.int .i64 (A.length:Nat)),(2,.int .i64 ((A.length+X.length:Nat):Int)),(3,.func (.func cf) #[] #[]),(8,.int .i64 (i:Nat))]∧Stable hid (X1++[x]) I∧ZZ O g (A++I++Q'++B)∧Only [g] M O∧O.size=M.size⟩:=fun hle f h0 h1 h2 h3 h8=>by
      refine⟨[0,1,2,3,8],?_⟩
      simp only[keepF,h0,h1,h2,h3,h8,zZ,reduceIte,yQ,yW,yX,yZ,yJ,yK,yV]
      have Z:Stable hid (R++[x]) (R1++x::I):=by
       rw[a2]
       exact Kl hid (by rw[←a2];exact U.rising) (fun y hy=>hle y hy) (fun y hy=>an y hy)
      have am:Stable hid (X1++[x]) (R1++x::I):=Z.of_keys hid (fun k=>by rw[Xu,Xu,U.keys]) (by simp[U.len])
      exact⟨O,tR _,R1++x::I,am,by simpa using Y,ab,a8⟩
     refine J0 (J0 (QG hmix 14 (by kernel_rfl) (by kernel_rfl) ?_))
     rcases List.eq_nil_or_concat R1 with rfl|⟨ac,y,rfl⟩
     ·have q1:decide ((A.length:Int)<(j:Int))=false:=decide_eq_false (by rw[hj];simp)
      refine S1 @q1 ?_
      refine CF (Jn ?_)
      simp only[zZ,reduceIte,yQ,yW,yX,yZ,yJ,yK,yV]
      exact done (by simp) _ rfl rfl rfl rfl rfl
     ·obtain⟨P,hP⟩:∃P,P=A++ac:=⟨_,rfl⟩
      obtain⟨T,hT⟩:∃T,T=I++Q'++B:=⟨_,rfl⟩
      have hL:A++ac.concat y++x::I++Q'++B=P++y::x::T:=by rw[hP,hT];simp
      rw[hL]at Y
      have ad:j=P.length+1:=by rw[hj,hP];simp;omega
      have aV:P.length+1<n:=by
       have e:=congrArg List.length a2
       simp only[qe,List.length_concat]at e
       rw[hP,qe]
       omega
      have q1:decide ((A.length:Int)<(j:Int))=true:=decide_eq_true (by rw[ad,hP,qe];omega)
      have r1:=hdl_row Y (at_midH1 P T x y)
      have r0:=hdl_row Y (at_midH P (x::T) y)
      have w1:IntKind.i64.wrap ((j:Int)-1)=((P.length:Nat):Int):=by rw[Xn (by omega) (by omega)];omega
      have z1:(0:Int)≤(j:Int):=by omega
      have z2:(j:Int)<(n:Int):=by omega
      have z3:(0:Int)≤((P.length:Nat):Int):=by omega
      have z4:((P.length:Nat):Int)<(n:Int):=by omega
      rw[←ad]at r1
      refine S9 @q1 @w1 @z1 @z2 @z3 @z4 @and_self @r0 @r1 ?_
      have sx:=ar x (.inr rfl)
      have sy:=ar y (.inl (by rw[a2];simp))
      refine⟨hcf.1,_,hcf.2 x y sx sy O,?_⟩
      rintro _ M9 ⟨rfl,e9⟩;replace e9:=e9.symm;subst e9
      refine⟨by decide,?_⟩
      refine S0 ?_
      refine CC (decide (x.id-y.id<0)) (fun h=>J3 ?_) (fun h=>Jn ?_)
      ·have h:=of_decide_eq_true h
       obtain⟨M3,aF,aw,ax,aS⟩:=hdl_put Y (show(P++y::x::T)[j]?=some x by rw[ad];exact at_midH1 P T x y) y
       have aE:((P++y::x::T).set j y)[P.length]?=some y:=by
        rw[qA (by omega)];exact at_midH P (x::T) y
       obtain⟨M4,aB,au,aA,aQ⟩:=hdl_put aw aE x
       rw[ad,swap_adjH]at au
       simp only[zZ,reduceIte,yQ,yW,yX,yZ,yJ,yK,yV]
       refine J0 (J7 (CW_draw4 hmix 15 [2,3,4] (by kernel_rfl) ?_))
       simp only[sQB,Zy,Option.bind_some,zZ,reduceIte,yQ,yW,yX,yZ,yJ,yK,yV,zDk,Jc,Jb,J9,J8,Xx,w1,z1,z2,z3,z4,and_self,r0,r1,aF,aB]
       refine⟨⟨⟨_,rfl⟩,⟨_,rfl⟩,⟨_,rfl⟩⟩,?_⟩
       refine R1 @w1 ?_
       refine JK [0,1,2,3,8,9] ?_
       refine⟨M4,tR _,P.length,⟨P.length,ac,y::I,rfl,rfl,by rw[a2];simp,by rw[hP,qe],?_,?_,ab.trans (ax.trans aA),by omega⟩,by omega⟩
       ·intro z hz
        rcases qq.1 hz with rfl|hz
        ·omega
        ·exact an z hz
       ·have e:A++ac++x::(y::I)++Q'++B=P++x::y::T:=by rw[hP,hT];simp
        rw[e];exact au
      ·have h:=of_decide_eq_false h
       simp only[zZ,reduceIte,yQ,yW,yX,yZ,yJ,yK,yV]
       refine done (fun z hz=>?_) _ rfl rfl rfl rfl rfl
       have hr:=U.rising
       rw[a2]at hr
       have hr:=(Rising.parts hid hr).1
       rw[List.concat_eq_append]at hr hz
       rcases qF.1 hz with hz|hz
       ·have:=(Rising.parts hid hr).2.2 z hz y (by simp)
        unfold hid at this
        omega
       ·simp only[qJ]at hz
        rw[hz];omega
   ·rintro _ O ⟨I,rfl,Z,Y,ab,a8⟩
    have ai:=Z.len
    have w1:IntKind.i64.wrap ((i:Int)+1)=((i+1:Nat):Int):=by rw[Xn (by omega) (by omega)];omega
    refine R1 @w1 ?_
    refine JK [0,1,2,3,8] ?_
    refine⟨O,tR _,n+1-(i+1),⟨i+1,I,Q',rfl,rfl,by omega,.inl ⟨?_,?_⟩,⟨X1++[x],by rw[E];simp,Z⟩,Y,ab,a8⟩,by omega⟩
    ·rw[ai,al];simp;omega
    ·intro e;rw[e]at ai;simp at ai
  ·have h:=of_decide_eq_false h
   have aC:=U.len
   have hQ:Q=[]:=by
    rcases ao with⟨h1,h2⟩|⟨h1,h2⟩
    ·have:Q.length=0:=by rw[E,qe]at h;omega
     exact qf this
    ·rw[h1]at E;exact(List.append_eq_nil_iff.1 E.symm).2
   simp only[zZ,reduceIte,yQ,yW,yX,yZ,yJ,yK,yV,zDk,Jc,Jb,J9,J8,Xx,mEnd,sAnswer,sAnswer.sRes]
   rw[hQ,qo]at aj E
   exact⟨M',tR _,⟨R,by rw[E];exact U,aj⟩,ho,av⟩
theorem pdqh_spec(cf:FuncId)(hcf:CmpOk cf)(g n c:Nat)(lim:Int)(M:Mem)(L:List Header)(hg:ZZ M g L)(hn:L.length=n)(hn2:n≤12)(hs:SmallH L):
 Abs.Spec qd 103 [.slice (some ⟨g,0,none⟩) n c,.int .i64 0,.int .i64 (n:Nat),.int .i64 lim,cmpH cf] M
  fun u M'=>u=.tuple #[]∧(∃R,Stable hid L R∧ZZ M' g R)∧Only [g] M M'∧M'.size=M.size:=by
 unfold cmpH
 refine K5 Tryz.func103 Tryz.results103 Tryz.ntmps103 fun hc hx k=>?_
 have Z:IntKind.i64.wrap ((n:Int)-0)=(n:Int):=by rw[Xn (by omega) (by omega)];omega
 have U:decide ((n:Int)≤12)=true:=decide_eq_true (by omega)
 have is:=insh_spec cf hcf g n c M [] L [] (by simpa using hg) (by simpa using hn) (by omega) (by simpa using hs)
 simp only[qw,qG,hn,qB,qo]at is
 unfold cmpH at is
 refine J0 (R0 ?_)
 refine J0 (R0 ?_)
 refine J7 (Jr (fun j f M'=>j=0∧f=[(0,.slice (some ⟨g,0,none⟩) n c),(1,.int .i64 0),(2,.int .i64 (n:Nat)),(4,.func (.func cf) #[] #[])]∧M'=M) 0 ?_ ?_)
 ·refine JK [0,1,2,4] ?_
  exact⟨M,tR _,rfl⟩
 ·rintro j f M' ⟨rfl,rfl,E⟩
  replace E:=E.symm;subst E
  refine J7 (J0 (R1 @Z ?_))
  refine J0 (J0 (R1 @U ?_))
  refine CT (J0 (R0 ?_))
  refine⟨by kernel_rfl,_,is,?_⟩
  rintro _ M2 ⟨rfl,Y,O,I⟩
  refine S0 ?_
  refine T0 ?_
  exact⟨_,tR _,Y,O,I⟩
theorem sorth_spec(cf:FuncId)(hcf:CmpOk cf)(g n c:Nat)(M:Mem)(L:List Header)(hg:ZZ M g L)(hn:L.length=n)(hn2:n≤12)(hs:SmallH L):
 Abs.Spec qd 58 [.slice (some ⟨g,0,none⟩) n c,cmpH cf] M
  fun u M'=>u=.tuple #[]∧(∃R,Stable hid L R∧ZZ M' g R)∧Only [g] M M'∧M'.size=M.size:=by
 unfold cmpH
 refine K5 Tryz.func58 Tryz.results58 Tryz.ntmps58 fun hc hx k=>?_
 have O:=fun m=>blen_spec (n:Int) (by omega) (by omega) m
 have Y:IntKind.u64.wrap (n:Int)=(n:Int):=by unfold IntKind.wrap;simp[IntKind.bits,IntKind.signed];omega
 have pq:=fun lim=>pdqh_spec cf hcf g n c lim M L hg hn hn2 hs
 unfold cmpH at pq
 refine J0 (R0 ?_)
 refine R1 @Y ?_
 refine K0 (O _) ?_
 refine⟨by kernel_rfl,_,pq _,?_⟩
 rintro _ Z ⟨rfl,U,I,E⟩
 simp only[zZ,reduceIte,yQ,yW,yX,yZ,yJ,yK,yV,zDk,Jc,Jb,J9,J8,Xx,mEnd,sAnswer,sAnswer.sRes]
 exact⟨_,tR _,U,I,E⟩
abbrev XN(K:Nat)(M:Mem)(V:Value)(L:List Header):Prop:=OwnL Header.cells 7 K M V L
theorem insh_nil(cf:FuncId)(hcf:CmpOk cf)(M:Mem):
 Abs.Spec qd 151 [.slice none 0 0,.int .i64 0,.int .i64 0,cmpH cf] M fun u M'=>u=.tuple #[]∧M'=M:=by
 unfold cmpH
 refine K5 Tryz.func151 Tryz.results151 Tryz.ntmps151 fun hc hx k=>?_
 have O:IntKind.i64.wrap ((0:Int)+1)=1:=by decide
 have I:decide ((1:Int)<0)=false:=rfl
 refine J0 (R1 @O ?_)
 refine J7 (Jr (fun j f M'=>j=0∧f=[(0,.slice none 0 0),(1,.int .i64 0),(2,.int .i64 0),(3,.func (.func cf) #[] #[]),(8,.int .i64 1)]∧M'=M) 0 ?_ ?_)
 ·refine JK [0,1,2,3,8] ?_
  exact⟨M,tR _,rfl⟩
 ·rintro j f M' ⟨rfl,rfl,E⟩
  replace E:=E.symm;subst E
  refine J0 (J0 (R2 @I @decide_false ?_))
  refine CF (Jn ?_)
  simp only[zZ,reduceIte,yQ,yW,yX,yZ,yJ,yK,yV,zDk,Jc,Jb,J9,J8,Xx,mEnd,sAnswer,sAnswer.sRes]
  exact⟨_,tR _,rfl⟩
theorem pdqh_nil(cf:FuncId)(hcf:CmpOk cf)(lim:Int)(M:Mem):
 Abs.Spec qd 103 [.slice none 0 0,.int .i64 0,.int .i64 0,.int .i64 lim,cmpH cf] M fun u M'=>u=.tuple #[]∧M'=M:=by
 have is:=insh_nil cf hcf M
 unfold cmpH at is ⊢
 refine K5 Tryz.func103 Tryz.results103 Tryz.ntmps103 fun hc hx k=>?_
 have O:IntKind.i64.wrap ((0:Int)-0)=0:=by decide
 have I:decide ((0:Int)≤12)=true:=rfl
 refine J0 (R0 ?_)
 refine J0 (R0 ?_)
 refine J7 (Jr (fun j f M'=>j=0∧f=[(0,.slice none 0 0),(1,.int .i64 0),(2,.int .i64 0),(4,.func (.func cf) #[] #[])]∧M'=M) 0 ?_ ?_)
 ·refine JK [0,1,2,4] ?_
  exact⟨M,tR _,rfl⟩
 ·rintro j f M' ⟨rfl,rfl,E⟩
  replace E:=E.symm;subst E
  refine J7 (J0 (R1 @O ?_))
  refine J0 (J0 (R2 @I @decide_true ?_))
  refine CT (J0 (R0 ?_))
  refine⟨by kernel_rfl,_,is,?_⟩
  rintro _ U ⟨rfl,rfl⟩
  refine S0 ?_
  refine T0 ?_
  exact⟨_,tR _,rfl⟩
theorem sorth_nil(cf:FuncId)(hcf:CmpOk cf)(M:Mem):
 Abs.Spec qd 58 [.slice none 0 0,cmpH cf] M fun u M'=>u=.tuple #[]∧M'=M:=by
 have pq:=fun lim=>pdqh_nil cf hcf lim M
 unfold cmpH at pq ⊢
 refine K5 Tryz.func58 Tryz.results58 Tryz.ntmps58 fun hc hx k=>?_
 have E:=fun m=>blen_spec 0 (by omega) (by omega) m
 have I:IntKind.u64.wrap 0=0:=by decide
 refine J0 (R0 ?_)
 refine R1 @I ?_
 refine K0 (E _) ?_
 refine⟨by kernel_rfl,_,pq _,?_⟩
 rintro _ O ⟨rfl,rfl⟩
 simp only[zZ,reduceIte,yQ,yW,yX,yZ,yJ,yK,yV,zDk,Jc,Jb,J9,J8,Xx,mEnd,sAnswer,sAnswer.sRes]
 exact⟨_,tR _,rfl⟩
theorem sorth_own(cf:FuncId)(hcf:CmpOk cf)(K:Nat)(M:Mem)(V:Value)(L:List Header)(h:XN K M V L)(hl:L.length≤12)(hs:SmallH L):
 Abs.Spec qd 58 [V,cmpH cf] M
  fun u M'=>u=.tuple #[]∧(∃R,Stable hid L R∧XN K M' V R)∧(∀b y,QK V≠some b→M.get b=some y→M'.get b=some y)∧M'.size=M.size:=by
 rcases h with⟨rfl,rfl⟩|⟨h0,g,Z,rfl,hg⟩
 ·refine(sorth_nil cf hcf M).mono ?_
  rintro u M' ⟨rfl,rfl⟩
  exact⟨rfl,⟨[],Stable.refl _ qm.nil,OwnL.nil _ _⟩,fun _ _ _ h=>h,rfl⟩
 ·refine(sorth_spec cf hcf g L.length L.length M L hg rfl hl hs).mono ?_
  rintro u M' ⟨rfl,⟨R,U,I⟩,Y,O⟩
  have E:=U.len
  refine⟨rfl,⟨R,U,.inr ⟨fun e=>h0 (qf (by rw[←E,e];rfl)),g,Z,by rw[E],I⟩⟩,fun b y hb hy=>Y b y (by simp;exact fun e=>hb (by rw[e];rfl)) hy,O⟩
theorem insHead_split(h:Header):∀l,Rising hid l→∃a b,l=a++b∧insHead l h=a++h::b∧(∀x∈a,hid x≤hid h)∧(∀x∈b,hid h<hid x)
 | [],_=>⟨[],[],rfl,rfl,by simp,by simp⟩
 |x::r,hr=>by
  unfold Rising at hr
  rw[List.pairwise_cons]at hr
  by_cases q:x.id≤h.id
  ·obtain⟨a,b,h1,h2,h3,h4⟩:=insHead_split h r hr.2
   refine⟨x::a,b,by rw[h1];rfl,?_,?_,h4⟩
   ·unfold insHead
    rw[if_pos q,h2]
    rfl
   ·intro y hy
    rcases qq.1 hy with rfl|hy
    ·exact q
    ·exact h3 y hy
  ·refine⟨[],x::r,rfl,?_,by simp,?_⟩
   ·unfold insHead
    rw[if_neg q]
    rfl
   ·intro y hy
    rcases qq.1 hy with rfl|hy
    ·unfold hid;omega
    ·have:=hr.1 y hy
     unfold hid at*
     omega
theorem heads_go(l:List Header):∀X acc,Stable hid X acc→Stable hid (X++l) (l.foldl insHead acc):=by
 induction l with
 |nil=>intro X acc h;rw[qo];exact h
 |cons x l ih=>
  intro X acc h
  obtain⟨a,b,I,h2,O,U⟩:=insHead_split x acc h.rising
  rw[List.foldl_cons,show X++x::l=X++[x]++l by simp]
  refine ih (X++[x]) _ ?_
  rw[h2]
  have E:Stable hid (a++b++[x]) (a++x::b):=Kl hid (by rw[←I];exact h.rising) O U
  exact E.of_keys hid (fun k=>by rw[Xu,Xu hid k X,←I,h.keys]) (by rw[←I];simp[h.len])
theorem heads_stable(l:List Header):Stable hid l (headsOf l):=by
 have:=heads_go l [] [] (Stable.refl hid qm.nil)
 rw[qB]at this
 exact this
theorem heads_eq{l r:List Header}(h:Stable hid l r):r=headsOf l:=Stable.unique hid h (heads_stable l)
end Go.Proofs.YthohbneadomgdaaGreatDoor
namespace Go.Proofs.YthohbneadomgdaaGreatDoor
open Go.RowKit Abs
section
variable {key : List UInt8} {a : Arc} {ep st : Int} {G : List Bool}
theorem stage_d1(hk:ArcOk key a){d:Dsk}(hd:d.dead=false){k:Nat}{b:List UInt8}(hb:a.blocks[k]?=some b):
 Dep.stage d (Zm key a ep st G) a.head.id (k:Int) b=if G.getD k false=true then(d,Zm key a ep st G,0)else Dep.staged1 d (Zm key a ep st G) 0 ⟨a.ext,G⟩ (k:Int) b:=by
 have I:=(qj.1 hb).1
 have hl:=hk.len
 have E:=hk.size b (qu hb)
 unfold Dep.stage
 rw[if_neg (by rw[hd];decide),d1_rec]
 simp only
 rw[if_neg (by show¬((k:Int)<0∨a.head.n≤(k:Int));omega),if_neg (by simp[E]),qt]
theorem kept_d0:(Dp0 key ep st).keptL=[]:=rfl
theorem kept_d2:(Dp2 key a ep st).keptL=[a.head]:=rfl
end
def hello:List UInt8:=[104,101,108,108,111]
theorem wake_plain(key:List UInt8)(a:Arc)(hk:ArcOk key a)(hl:a.blocks.length=1)(b:List UInt8)(hb:a.blocks[0]?=some b):
 ∃d1 G d2 d3,Dep.begin (JQ 20) (Dp0 key 1 0) a.head=(d1,Zm key a 1 0 G,0)∧Dep.stage d1 (Zm key a 1 0 G) a.head.id 0 b=(d2,Zm key a 1 1 [true],0)∧Dep.commit d2 (Zm key a 1 1 [true]) a.head.id=(d3,Dp2 key a 1 1,0):=by
 obtain⟨h1,h2,h3,h4,h5⟩:=hist_new 20 (by decide) (by decide) a (fun _=>True)
 have I:a.blocks.length≤6:=by omega
 have ln:=hk.len
 rcases sess_begin (ep:=1) (st:=0) hk I h1 h2 h4 h5 h3.1 with⟨Z,b2,b3,b4,b5⟩|⟨Z,_⟩
 ·obtain⟨X,hX⟩:∃X,X=Dep.begin (JQ 20) (Dp0 key 1 0) a.head:=⟨_,rfl⟩
  rw[←hX]at Z b2 b3 b4 b5
  have E:=b5 h3
  have hf:QU a=[false]:=by
   unfold QU
   rw[show a.head.n.toNat=1 by omega]
   rfl
  rw[hf]at b2 b3
  have e1:Dep.begin (JQ 20) (Dp0 key 1 0) a.head=(X.1,Zm key a 1 0 [false],0):=by rw[←hX];exact Prod.ext rfl (Prod.ext b2 Z)
  have s1:=stage_d1 (ep:=1) (st:=0) (G:=[false]) hk E.1 hb
  rw[if_neg (by simp)]at s1
  rcases sess_stage (ep:=1) (st:=0) hk I b3 E.1 0 b hb rfl with⟨U,c2,c3,c4,c5⟩|⟨U,_⟩
  ·obtain⟨Y,hY⟩:∃Y,Y=Dep.staged1 X.1 (Zm key a 1 0 [false]) 0 ⟨a.ext,[false]⟩ ((0:Nat):Int) b:=⟨_,rfl⟩
   rw[←hY]at U c2 c3 c4 c5 s1
   have O:=c5 E
   have hG:([false]:List Bool).set 0 true=qc a.blocks.length true:=by rw[hl];rfl
   rcases sess_commit (ep:=1) (st:=1) hk I hG c3 O.1 with⟨f1,f2,_⟩|⟨f1,_⟩
   ·refine⟨X.1,[false],Y.1,(Dep.commit Y.1 (Zm key a 1 1 [true]) a.head.id).1,e1,?_,?_⟩
    ·show Dep.stage X.1 (Zm key a 1 0 [false]) a.head.id ((0:Nat):Int) b=_
     rw[s1]
     show Y=(Y.1,Zm key a 1 1 [true],0)
     exact Prod.ext rfl (Prod.ext c2 U)
    ·have a2:(Dep.commit Y.1 (Zm key a 1 1 [true]) a.head.id).2.2=0:=f1
     have ab:(Dep.commit Y.1 (Zm key a 1 1 [true]) a.head.id).2.1=Dp2 key a 1 1:=f2
     exact Prod.ext rfl (Prod.ext ab a2)
   ·exact absurd O f1
  ·exact absurd E U
 ·exact absurd h3 Z
section
variable {key : List UInt8} {a : Arc} {d : Dsk} {D : Dep} {e : Nat} {n : Int}
theorem UQ(d:Dsk)(n:Int)(i:Nat)(s:List UInt8):(d.setFuse n).poss i s↔d.poss i s:=by
 unfold Dsk.setFuse
 split<;>exact Iff.rfl
theorem fuse_old(d:Dsk)(n:Int):(d.setFuse n).old=d.old:=by unfold Dsk.setFuse;split<;>rfl
theorem Uc(d:Dsk)(n:Int)(i:Nat):(d.setFuse n).sector i=d.sector i:=by unfold Dsk.setFuse;split<;>rfl
theorem fuse_dead(d:Dsk)(n:Int):(d.setFuse n).dead=d.dead:=by unfold Dsk.setFuse;split<;>rfl
theorem fuse_ok(h:d.Ok)(hn:n≤9223372036854775807):(d.setFuse n).Ok:=by
 unfold Dsk.setFuse
 split
 ·exact h
 ·exact⟨h.n,h.pos,h.size,h.keys,h.born,h.clock,h.within,⟨by show-1≤max n (-1);omega,by show max n (-1)≤_;omega⟩,trivial⟩
theorem Hist.fused{P:List Bool→Prop}(h:Hist a d e P)(hn:n≤9223372036854775807):Hist a (d.setFuse n) e P:=h.cong (fuse_ok h.ok hn) (by rw[fuse_old]) fun i t=>UQ d n i t
theorem Sess.fused{Gp G:List Bool}(h:Sess a e d Gp G)(hn:n≤9223372036854775807):Sess a e (d.setFuse n) Gp G:=
 ⟨h.hist.fused hn,h.len,by rw[Uc];exact h.cur,h.sure.less fun i t _ ht=>.inl ((UQ d n i t).1 ht),fun s hs=>h.one s ((UQ d n 1 s).1 hs),fun s hs=>h.five s ((UQ d n 5 s).1 hs)⟩
def Opn(key:List UInt8)(a:Arc)(e:Nat)(d:Dsk)(D:Dep):Prop:=
 Clean d∧d.dead=false∧Hist a d e (fun _=>True)∧((JN (d.sector 1)=[]∧JN (d.sector 5)=[]∧∃ep,D=Dp0 key ep 0)∨(∃G ep,D=Zm key a ep 0 G∧Sess a e d G G)∨∃ep,D=Dp2 key a ep 0)
theorem Opn.fused(h:Opn key a e d D)(hn:n≤9223372036854775807):Opn key a e (d.setFuse n) D:=by
 obtain⟨U,h2,O,Y⟩:=h
 refine⟨fun i s hs=>by rw[Uc];exact U i s ((UQ d n i s).1 hs),by rw[fuse_dead];exact h2,O.fused hn,?_⟩
 rcases Y with⟨E,I,Z⟩|⟨G,ep,E,I⟩|E
 ·exact .inl ⟨by rw[Uc];exact E,by rw[Uc];exact I,Z⟩
 ·exact .inr (.inl ⟨G,ep,E,I.fused hn⟩)
 ·exact .inr (.inr E)
theorem opn_new(key:List UInt8)(a:Arc)(N:Nat)(h1:20≤N)(h2:N≤1024):Opn key a 1 (JQ N) (Dp0 key 1 0):=by
 obtain⟨O,E,I,U,Y⟩:=hist_new N h1 h2 a (fun _=>True)
 exact⟨E,I.1,O,.inl ⟨U,Y,1,rfl⟩⟩
end
end Go.Proofs.YthohbneadomgdaaGreatDoor
namespace Go.Proofs
open Go.Shelf
def Tryz.keysA_ren:Go.Shelf.Ren:=⟨fun|7=>81|10=>133|n=>n,fun|23=>91|26=>3|3=>9|28=>143|0=>0|27=>142|33=>46|4=>4|n=>n,fun|n=>n⟩
theorem Tryz.keysA:Go.Proofs.SlLaysZI.n7 qd Tryz.keysA_ren:={
 mixed:=by kernel_rfl
 f7:=⟨Tryz.f81.name,by decide,Tryz.func81.trans (congrArg some (by kernel_rfl))⟩
 f10:=⟨Tryz.f133.name,by decide,Tryz.func133.trans (congrArg some (by kernel_rfl))⟩
 t0:=Tryz.underlying0
 a0:=Tryz.isAgg0
 z0:=Tryz.sizeOf0
 v0:=Tryz.zeroValue0
 t4:=Tryz.underlying4
 a4:=Tryz.isAgg4
 z4:=Tryz.sizeOf4
 v4:=Tryz.zeroValue4
 t23:=Tryz.underlying91
 a23:=Tryz.isAgg91
 z23:=Tryz.sizeOf91
 v23:=Tryz.zeroValue91
 t26:=qv
 a26:=Tryz.isAgg3
 z26:=Tryz.sizeOf3
 v26:=qH
 t27:=Tryz.underlying142
 a27:=Tryz.isAgg142
 z27:=Tryz.sizeOf142
 v27:=Tryz.zeroValue142
 t28:=Tryz.underlying143
 a28:=Tryz.isAgg143
 z28:=Tryz.sizeOf143
 v28:=Tryz.zeroValue143
 t33:=Tryz.underlying46
 a33:=Tryz.isAgg46
 z33:=Tryz.sizeOf46
 v33:=Tryz.zeroValue46 }
def Tryz.sortedA_ren:Go.Shelf.Ren:=⟨fun|6=>80|8=>131|9=>132|11=>193|13=>104|12=>194|23=>159|24=>160|14=>223|15=>224|16=>225|17=>226|18=>227|19=>228|20=>229|21=>230|22=>231|25=>246|26=>201|27=>202|28=>247|29=>248|30=>249|31=>255|n=>n,fun|26=>3|28=>143|24=>22|0=>0|3=>3|37=>161|48=>222|50=>40|4=>4|40=>216|39=>215|45=>80|5=>5|9=>9|51=>256|55=>260|57=>283|58=>94|33=>46|n=>n,fun|n=>n⟩
theorem Tryz.sortedA:Go.Proofs.SlLaysZI.n6 qd Tryz.sortedA_ren:={
 mixed:=by kernel_rfl
 f6:=⟨Tryz.f80.name,by decide,Tryz.func80.trans (congrArg some (by kernel_rfl))⟩
 f8:=⟨Tryz.f131.name,by decide,Tryz.func131.trans (congrArg some (by kernel_rfl))⟩
 f11:=⟨Tryz.f193.name,by decide,Tryz.func193.trans (congrArg some (by kernel_rfl))⟩
 t0:=Tryz.underlying0
 a0:=Tryz.isAgg0
 z0:=Tryz.sizeOf0
 v0:=Tryz.zeroValue0
 t24:=Tryz.underlying22
 a24:=Tryz.isAgg22
 z24:=Tryz.sizeOf22
 v24:=Tryz.zeroValue22
 t26:=qv
 a26:=Tryz.isAgg3
 z26:=Tryz.sizeOf3
 v26:=qH
 t28:=Tryz.underlying143
 a28:=Tryz.isAgg143
 z28:=Tryz.sizeOf143
 v28:=Tryz.zeroValue143
 i26:=by kernel_rfl }
def Tryz.sortA_ren:Go.Shelf.Ren:=⟨fun|5=>132|8=>104|7=>194|19=>159|20=>160|10=>223|11=>224|12=>225|13=>226|14=>227|15=>228|16=>229|17=>230|18=>231|30=>246|31=>201|32=>202|33=>247|34=>248|35=>249|40=>255|n=>n,fun|23=>22|25=>3|3=>3|32=>161|22=>22|0=>0|44=>222|46=>40|4=>4|36=>216|35=>215|41=>80|5=>5|9=>9|53=>256|57=>260|63=>283|64=>94|n=>n,fun|n=>n⟩
theorem Tryz.sortA:Go.Proofs.SlLaysM.n5 qd Tryz.sortA_ren:={
 mixed:=by kernel_rfl
 f5:=⟨Tryz.f132.name,by decide,Tryz.func132.trans (congrArg some (by kernel_rfl))⟩
 f7:=⟨Tryz.f194.name,by decide,Tryz.func194.trans (congrArg some (by kernel_rfl))⟩
 f8:=Tryz.func104.trans (congrArg some (by kernel_rfl))
 f10:=⟨Tryz.f223.name,by decide,Tryz.func223.trans (congrArg some (by kernel_rfl))⟩
 f11:=⟨Tryz.f224.name,by decide,Tryz.func224.trans (congrArg some (by kernel_rfl))⟩
 f12:=⟨Tryz.f225.name,by decide,Tryz.func225.trans (congrArg some (by kernel_rfl))⟩
 f13:=⟨Tryz.f226.name,by decide,Tryz.func226.trans (congrArg some (by kernel_rfl))⟩
 f14:=⟨Tryz.f227.name,by decide,Tryz.func227.trans (congrArg some (by kernel_rfl))⟩
 f15:=⟨Tryz.f228.name,by decide,Tryz.func228.trans (congrArg some (by kernel_rfl))⟩
 f16:=⟨Tryz.f229.name,by decide,Tryz.func229.trans (congrArg some (by kernel_rfl))⟩
 f17:=⟨Tryz.f230.name,by decide,Tryz.func230.trans (congrArg some (by kernel_rfl))⟩
 f18:=⟨Tryz.f231.name,by decide,Tryz.func231.trans (congrArg some (by kernel_rfl))⟩
 f19:=Tryz.func159.trans (congrArg some (by kernel_rfl))
 f20:=Tryz.func160.trans (congrArg some (by kernel_rfl))
 f30:=⟨Tryz.f246.name,by decide,Tryz.func246.trans (congrArg some (by kernel_rfl))⟩
 f31:=Tryz.func201.trans (congrArg some (by kernel_rfl))
 f32:=Tryz.func202.trans (congrArg some (by kernel_rfl))
 f33:=⟨Tryz.f247.name,by decide,Tryz.func247.trans (congrArg some (by kernel_rfl))⟩
 f34:=⟨Tryz.f248.name,by decide,Tryz.func248.trans (congrArg some (by kernel_rfl))⟩
 f35:=⟨Tryz.f249.name,by decide,Tryz.func249.trans (congrArg some (by kernel_rfl))⟩
 f40:=⟨Tryz.f255.name,by decide,Tryz.func255.trans (congrArg some (by kernel_rfl))⟩
 t0:=Tryz.underlying0
 a0:=Tryz.isAgg0
 z0:=Tryz.sizeOf0
 v0:=Tryz.zeroValue0
 t3:=qv
 a3:=Tryz.isAgg3
 z3:=Tryz.sizeOf3
 v3:=qH
 t4:=Tryz.underlying4
 a4:=Tryz.isAgg4
 z4:=Tryz.sizeOf4
 v4:=Tryz.zeroValue4
 t5:=Tryz.underlying5
 a5:=Tryz.isAgg5
 z5:=Tryz.sizeOf5
 v5:=Tryz.zeroValue5
 t9:=Tryz.underlying9
 a9:=Tryz.isAgg9
 z9:=Tryz.sizeOf9
 v9:=Tryz.zeroValue9
 t22:=Tryz.underlying22
 a22:=Tryz.isAgg22
 z22:=Tryz.sizeOf22
 v22:=Tryz.zeroValue22
 t23:=Tryz.underlying22
 a23:=Tryz.isAgg22
 z23:=Tryz.sizeOf22
 v23:=Tryz.zeroValue22
 t25:=qv
 a25:=Tryz.isAgg3
 z25:=Tryz.sizeOf3
 v25:=qH
 t32:=Tryz.underlying161
 a32:=Tryz.isAgg161
 z32:=Tryz.sizeOf161
 v32:=Tryz.zeroValue161
 t35:=Tryz.underlying215
 a35:=Tryz.isAgg215
 z35:=Tryz.sizeOf215
 v35:=Tryz.zeroValue215
 t36:=Tryz.underlying216
 a36:=Tryz.isAgg216
 z36:=Tryz.sizeOf216
 v36:=Tryz.zeroValue216
 t41:=Tryz.underlying80
 a41:=Tryz.isAgg80
 z41:=Tryz.sizeOf80
 v41:=Tryz.zeroValue80
 t44:=Tryz.underlying222
 a44:=Tryz.isAgg222
 z44:=Tryz.sizeOf222
 v44:=Tryz.zeroValue222
 t46:=Tryz.underlying40
 a46:=Tryz.isAgg40
 z46:=Tryz.sizeOf40
 v46:=Tryz.zeroValue40
 t53:=Tryz.underlying256
 a53:=Tryz.isAgg256
 z53:=Tryz.sizeOf256
 v53:=Tryz.zeroValue256
 t57:=Tryz.underlying260
 a57:=Tryz.isAgg260
 z57:=Tryz.sizeOf260
 v57:=Tryz.zeroValue260
 t63:=Tryz.underlying283
 a63:=Tryz.isAgg283
 z63:=Tryz.sizeOf283
 v63:=Tryz.zeroValue283
 t64:=Tryz.underlying94
 a64:=Tryz.isAgg94
 z64:=Tryz.sizeOf94
 v64:=Tryz.zeroValue94 }
end Go.Proofs
namespace Go.Proofs.YthohbneadomgdaaGreatDoor
open Go.RowKit Abs Go.Maps Go.Sort Go.Shelf
theorem sortsA(m:Nat):AnyZI.SortsIn qd Tryz.sortedA_ren Fence.wide m:=
 ⟨fun blk off cap ss W hH hblk hsz=>callsIn_wide.2 (AnyM.slices_Sort_int Tryz.sortA blk off cap ss W hH hblk hsz),
  fun p cap W=>callsIn_wide.2 (AnyM.slices_Sort_int_none Tryz.sortA p cap W)⟩
theorem unsync_world{H:Type}(pb po b nn:Nat)(D0:DataW H)(R:Value→Option (DataW H×List MemPlace))(w:World)(hp:w.cell? ⟨pb,po+1,none⟩=some (.map (some b)))(hown:w.ownsMap qd 3 R b nn D0)(hmax:Maps.size D0≤maxLen)(hbytes:Maps.size D0*8≤140737488355328):
 Calls qd 40 #[.pointer (some ⟨pb,po,none⟩)] w fun e w'=>∃(v:Value)(ss:List Int),e=.returned v∧ss.Perm (intKeys D0)∧
  w'.ownsRow w.heap.size 3 1 v ss.length ((ss.mergeSort (fun x y=>decide (x≤y))).map Go.encZ)∧(v=.slice none 0 0↔ss=[])∧Below w.heap.size w w':=by
 refine(callsIn_wide (n:=6)).1 ?_
 have U:=hown.lt
 have O:SeqGives Fence.wide 2 qd 133 #[.pointer (some ⟨w.heap.size,0,none⟩)] Go.encZ (fun ss=>ss.Perm (intKeys D0)) (Maps.size D0) (w.alloc (.cells #[.map (some b)] 91)):=
  AnyZI.keys_gives (ρ:=Tryz.keysA_ren) { Tryz.keysA with } Fence.wide _ trivial rfl (by omega) w.heap.size b nn D0 _ (by simp) (by simp) (by
   obtain⟨es,clock,hb,Z,hs,hD⟩:=hown
   exact⟨es,clock,(Below.heap_alloc _ _ b U).trans hb,Z,hs,hD⟩)
 have cK:∀mb W,CallsIn Fence.wide 5 qd 81 #[.map mb] W fun e w'=>e=.returned (.func (.func 133) #[] #[.pointer (some ⟨W.heap.size,0,none⟩)])∧w'=W.alloc (.cells #[.map mb] 91):=fun mb W=>AnyZI.keys_in Tryz.keysA Fence.wide 5 trivial rfl mb W
 have Y:=AnyZI.sorted_in Tryz.sortedA Fence.wide 5 trivial trivial trivial trivial rfl (by omega) (sortsA _) (enters_of Tryz.func132 (by kernel_rfl) rfl) 133 #[.pointer (some ⟨w.heap.size,0,none⟩)] trivial (enters_of Tryz.func133 (by kernel_rfl) rfl) _ _ hmax hbytes _ O
 change CallsIn _ _ qd 80 _ _ _ at Y
 have a8:Fence.wide.fn 81:=trivial
 have a6:Fence.wide.fn 80:=trivial
 refine callsIn_of_wp Tryz.func40 rfl trivial ?_ rfl
 simp only[Tryz.ntmps40,List.size_toArray,qD,qw,yV,yY,Array.replicate_succ,Array.replicate_zero,List.push_toArray,List.append_toArray,qB,List.cons_append]
 gi_wp2_with (first
  |(gi_at_call 81;refine(cK _ _).mono ?_;rintro e w' ⟨rfl,rfl⟩)
  |(gi_at_call 80;refine Y.mono ?_;rintro e w' ⟨v,ss,rfl,hS,E,I,hb⟩))
 go_ret
 exact⟨v,ss,rfl,hS,ownsRow_base_a E (by simp),I,((Below.refl _ w).alloc (qh _) _).trans (hb.mono (by simp))⟩
def encI(x:Nat):List Value:=[.int .i64 (x:Nat)]
def rdAny(_:Value):Option (DataW Unit×List MemPlace):=some (.nil,[])
theorem key_int(x:Nat)(hx:x≤1024):keyOf qd 3 (.int .i64 (x:Nat))=some (.int .i64 (x:Nat)):=by
 have hw:(Lit.int .i64 ((x:Nat):Int)).wf=true:=by
  show(decide (IntKind.i64.min≤((x:Nat):Int))&&decide (((x:Nat):Int)≤IntKind.i64.max))=true
  rw[Bool.and_eq_true]
  exact⟨decide_eq_true (by show(-9223372036854775808:Int)≤_;omega),decide_eq_true (by show _≤(9223372036854775807:Int);omega)⟩
 simp only[keyOf,qv,mapKey,hw]
 rfl
theorem ents_read{d:Dsk}(hok:d.Ok):∀e∈QW d.last,∃y,WideElems.rd qd 3 rdAny e=some y:=fun e he=>by
 obtain⟨x,hx,rfl⟩:=List.mem_map.1 he
 have hn:=hok.n
 exact⟨_,WideElems.rd_mk (key_int x.1 (by have:=(hok.within x hx).1;omega)) rfl⟩
theorem ents_keys{d:Dsk}(hok:d.Ok):((QW d.last).map (WideElems.rg qd 3 rdAny)).map (fun p=>Go.intOf p.1)=(d.last.map (·.1)).map fun x:Nat=>(x:Int):=by
 unfold QW
 rw[qI,qI,qI]
 refine List.map_congr_left fun x hx=>?_
 have E:=hok.n
 have:=WideElems.rg_of (WideElems.rd_mk (P:=qd) (k:=3) (R:=rdAny) (val:=.string (str x.2.1)) (born:=x.2.2) (key_int x.1 (by have:=(hok.within x hx).1;omega)) rfl)
 simp only[Function.comp]
 rw[this]
 rfl
theorem keys_perm{d:Dsk}(hok:d.Ok):(d.last.map (·.1)).Perm (Je d):=by
 refine(List.perm_ext_iff_of_nodup hok.keys (qm.filter _ List.nodup_range)).2 fun i=>?_
 rw[List.mem_filter,List.mem_range,List.mem_map]
 constructor
 ·rintro⟨x,hx,rfl⟩
  refine⟨(hok.within x hx).1,?_⟩
  unfold Jt
  rw[Option.isSome_map,List.find?_isSome]
  exact⟨x,hx,by simp⟩
 ·rintro⟨_,h⟩
  unfold Jt at h
  rw[Option.isSome_map,List.find?_isSome]at h
  obtain⟨x,hx,E⟩:=h
  exact⟨x,hx,by simpa using E⟩
theorem unsynced_rise(d:Dsk):((Je d).map fun x:Nat=>(x:Int)).Pairwise fun x y=>decide (x≤y)=true:=by
 rw[List.pairwise_map]
 refine qm.imp (R:=fun a b=>a<b) (fun {a b} h=>decide_eq_true (by omega)) ?_
 exact qm.filter _ List.pairwise_lt_range
theorem unsync_spec(M:Mem)(p q g:Nat)(d:Dsk)(hd:DskAt M p q g d):
 Abs.Spec qd 40 [dp p] M fun u M'=>OwnL encI 1 M.size M' u (Je d)∧More M M':=by
 intro ι w ys hy hr
 obtain⟨y,rfl⟩:∃y,ys=[y]:=by
  have:=hy.1
  match ys,this with
  | [y],_=>exact⟨y,rfl⟩
 have hv:=hy.2 0 _ y rfl rfl
 cases hv
 obtain⟨s,aa⟩:=hd.row
 obtain⟨C,e,fz,hC,aC,_,au,XU,_⟩:=hr.at' p false s _ aa
 obtain⟨_,v1,U,h2⟩:=XU 1 (.map (some q)) rfl
 cases h2
 obtain⟨ac,_,_⟩:=hr.oth q _ hd.kv
 have hn:=hd.ok.n
 have aj:d.last.length≤1024:=by
  have h:=(keys_perm hd.ok).length_eq
  rw[qp]at h
  have:(Je d).length≤1024:=Nat.le_trans (List.length_filter_le _ _) (by rw[List.length_range];omega)
  omega
 have ak:(QW d.last).length≤1024:=by unfold QW;rw[qp];exact aj
 have a7:w.ownsMap qd 3 rdAny (ι q).blk 1024 (.map (((QW d.last).map (WideElems.rg qd 3 rdAny)).foldr DataW.insert [])):=by
  refine⟨_,_,ac,⟨by simp[maxLen];omega,⟨?_,?_,?_⟩,by simpa using ents_read hd.ok⟩,by simpa using ak,by simp⟩
  ·intro x hx
   simp only[List.toList_toArray]at hx
   obtain⟨z,hz,rfl⟩:=List.mem_map.1 hx
   exact hd.ok.clock z hz
  ·simpa[QW,Function.comp_def]using hd.ok.born
  ·have:((d.last.map (·.1)).map fun n:Nat=>Value.int .i64 (n:Nat)).Nodup:=qm.map _ (fun a b h e=>h (by injection e with _ e;omega)) hd.ok.keys
   rw[qI]at this
   simpa[QW,Function.comp_def]using this
 have Y:Maps.size (DataW.map (((QW d.last).map (WideElems.rg qd 3 rdAny)).foldr DataW.insert []))=(QW d.last).length:=by
  show(((QW d.last).map (WideElems.rg qd 3 rdAny)).foldr DataW.insert []).length=_
  rw[(WideShapes.sorted_perm _).length_eq,qp]
 refine(unsync_world (ι p).blk ((ι p).base+0) (ι q).blk 1024 _ rdAny w (by rw[Qi hC];exact U) a7 (by rw[Y];unfold maxLen;omega) (by rw[Y];omega)).mono ?_
 rintro e w' ⟨v,ss,rfl,a2,I,a6,hb⟩
 have a8:ss.Perm ((Je d).map fun x:Nat=>(x:Int)):=by
  refine a2.trans ?_
  show(List.map (fun p=>Go.intOf p.1) (((QW d.last).map (WideElems.rg qd 3 rdAny)).foldr DataW.insert [])).Perm _
  refine((WideShapes.sorted_perm _).map _).trans ?_
  rw[ents_keys hd.ok]
  exact(keys_perm hd.ok).map _
 have Z:(ss.mergeSort fun x y=>decide (x≤y))=(Je d).map fun x:Nat=>(x:Int):=
  List.Perm.eq_of_pairwise (le:=fun x y:Int=>decide (x≤y)=true) (fun a b _ _ U h2=>by have U:=of_decide_eq_true U;have h2:=of_decide_eq_true h2;omega)
   (List.pairwise_mergeSort (fun a b c U h2=>by simp only[decide_eq_true_eq]at*;omega) (fun a b=>by simp only[Bool.or_eq_true,decide_eq_true_eq];omega) ss) (unsynced_rise d) ((List.mergeSort_perm ss _).trans a8)
 have hl:ss.length=(Je d).length:=by rw[a8.length_eq,qp]
 rw[Z]at I
 have ad:Rel ι M w':=hr.same hb.block
 have am:Step ι M w ι M w':=⟨hb.os,hb.tape,hb.output,hb.size,fun b h=>h,fun _ _=>rfl,fun g hg _=>hb.block g hg,fun b hb=>.inr ⟨b,hb,rfl⟩⟩
 rcases I.2 with⟨rfl,hz⟩|⟨gb,cap,cur,rfl,O,an,r1,r2,r3,r4⟩
 ·have:Je d=[]:=qf (by omega)
  exact⟨.slice none 0 0,_,ι,M,⟨.inl ⟨this,rfl⟩,More.refl _⟩,rfl,.nilSlice,ad,am⟩
 ·have E:(Je d).flatMap encI=((Je d).map fun x:Nat=>(x:Int)).map Go.encZ:=by
   rw[qI];exact Z2 (fun x:Nat=>Value.int .i64 (x:Nat)) _
  have aq:((Je d).flatMap encI).length=(Je d).length:=by rw[E,qp,qp]
  have af:cur.toList.take (Je d).length=(Je d).flatMap encI:=by rw[E,←r4,hl,Nat.mul_one]
  have al:∀b,M.get b≠none→(ι b).blk<w.heap.size:=fun b hb=>hr.lt hb
  have av:(Je d).length≤cur.size:=by omega
  have ar:=ad.push false ⟨gb,0,cur.size,1⟩ ((Je d).flatMap encI) cur 3 (0,0) an rfl (by show 0+_≤_;rw[aq];omega) (fun i v hi=>by
   rw[←af,List.getElem?_take]at hi
   split at hi
   ·rename_i hil
    have ao:∃n:Int,v=.int .i64 n:=by
     have h5:((Je d).flatMap encI)[i]?=some v:=by rw[←af,List.getElem?_take,if_pos hil];exact hi
     rw[E,List.getElem?_map]at h5
     cases h6:((Je d).map fun x:Nat=>(x:Int))[i]? with
     |none=>rw[h6]at h5;cases h5
     |some n=>rw[h6]at h5;exact⟨n,(Option.some.inj h5).symm⟩
    obtain⟨n,rfl⟩:=ao
    exact⟨rfl,_,by show cur[0+i]?=_;rw[qG,←Array.getElem?_toList];exact hi,.int _ _⟩
   ·cases hi) (fun i _=>by simp) (fun b hb=>by have:=al b hb;show(ι b).blk≠gb;omega) (fun _=>Nat.le_trans hr.glob.known.size O) .one
  refine⟨.slice (some ⟨M.size,0,none⟩) (Je d).length (Je d).length,_,Qh ι M.size ⟨gb,0,cur.size,1⟩,M.push (.cells false 1 ((Je d).flatMap encI)),⟨?_,More.push _ _⟩,rfl,?_,ar,?_⟩
  ·by_cases e:Je d=[]
   ·have:=a6.2 (qf (by rw[hl,e];rfl))
    cases this
   ·exact .inr ⟨e,M.size,qh _,rfl,Mem.get_push_new _ _⟩
  ·have:=VRel.slice (n:=(M.push (.cells false 1 ((Je d).flatMap encI))).Has) (ι:=Qh ι M.size ⟨gb,0,cur.size,1⟩) M.size 0 (Je d).length (Je d).length cap (Mem.has_push_new _ _) (qh _) (.inr ⟨by omega,by rw[JU];show 0+0+cap*1≤cur.size;omega,r2⟩)
   rw[JU]at this
   rw[hl]
   exact this
  ·refine⟨hb.os,hb.tape,hb.output,hb.size,fun _ h=>Mem.has_push _ h,fun b h=>Jz _ (Mem.has_lt h),fun g hg _=>hb.block g hg,fun b ho=>?_⟩
   obtain⟨y,ho,hy⟩:=ho
   rcases Mem.get_push ho with⟨U,h2⟩|⟨U,_⟩
   ·exact .inr ⟨b,⟨y,h2,hy⟩,by rw[Jz _ U]⟩
   ·subst U
    rw[JU]
    exact .inl O
end Go.Proofs.YthohbneadomgdaaGreatDoor
namespace Go.Proofs.YthohbneadomgdaaGreatDoor
open Go.RowKit Abs
def Qw(d:Dsk)(bits:Int)(t:Nat):List (List UInt8):=d.old.mapIdx fun i o=>if(Je d).idxOf i<t∧bitOf bits ((Je d).idxOf i)=true then(Jt d.last i).getD o else o
theorem Xp(d:Dsk)(bits:Int)(t:Nat):(Qw d bits t).length=d.old.length:=by simp[Qw]
theorem crashOld_zero(d:Dsk)(bits:Int):Qw d bits 0=d.old:=by
 unfold Qw
 apply qx
 intro i
 rw[qi]
 cases d.old[i]?<;>simp
theorem unsynced_nodup(d:Dsk):(Je d).Nodup:=qm.filter _ List.nodup_range
theorem unsynced_mem{d:Dsk}{i:Nat}:i∈Je d↔i<d.old.length∧(Jt d.last i).isSome=true:=by
 unfold Je
 rw[List.mem_filter,List.mem_range]
theorem idxOf_at{d:Dsk}{i t:Nat}(h:(Je d)[t]?=some i):(Je d).idxOf i=t:=by
 obtain⟨E,rfl⟩:=qj.1 h
 exact(unsynced_nodup d).idxOf_getElem t E
theorem crashOld_all(d:Dsk)(bits:Int):Qw d bits (Je d).length=(d.crash bits).old:=by
 unfold Qw Dsk.crash
 simp only
 apply qx
 intro i
 rw[qi,qi]
 cases ho:d.old[i]? with
 |none=>rfl
 |some o=>
  simp only[qE]
  by_cases hm:i∈Je d
  ·have:=List.idxOf_lt_length_iff.2 hm
   simp[this]
  ·have E:Jt d.last i=none:=by
    cases hl:Jt d.last i with
    |none=>rfl
    |some s=>exact absurd (unsynced_mem.2 ⟨(qj.1 ho).1,by rw[hl];rfl⟩) hm
   rw[E];simp
theorem crashOld_succ{d:Dsk}{bits:Int}{t i:Nat}(h:(Je d)[t]?=some i):Qw d bits (t+1)=if bitOf bits t=true then(Qw d bits t).set i ((Jt d.last i).getD [])else Qw d bits t:=by
 have hi:=idxOf_at h
 have I:=unsynced_mem.1 (qu h)
 have O:∀j,j≠i→((Je d).idxOf j<t+1↔(Je d).idxOf j<t∨(Je d).idxOf j=t):=fun j _=>by omega
 have ne:∀j,j≠i→(Je d).idxOf j≠t:=fun j hj e=>by
  have U:=(qj.1 h).1
  have:=List.getElem_idxOf (x:=j) (xs:=Je d) (by rw[e];exact U)
  apply hj
  rw[←this]
  obtain⟨E,h2⟩:=qj.1 h
  rw[←h2]
  congr 1
 obtain⟨s,hs⟩:=Option.isSome_iff_exists.1 I.2
 split
 ·rename_i hb
  apply qx
  intro j
  rw[List.getElem?_set,Xp]
  unfold Qw
  rw[qi,qi]
  by_cases e:i=j
  ·subst e
   rw[if_pos rfl,if_pos I.1,qC I.1]
   simp[hi,hb,hs]
  ·rw[if_neg e]
   cases d.old[j]? with
   |none=>rfl
   |some o=>
    have:=ne j (Ne.symm e)
    simp only[qE]
    congr 2
    rw[eq_iff_iff]
    constructor
    ·rintro⟨E,h2⟩;exact⟨by omega,h2⟩
    ·rintro⟨E,h2⟩;exact⟨by omega,h2⟩
 ·rename_i hb
  unfold Qw
  apply qx
  intro j
  rw[qi,qi]
  cases d.old[j]? with
  |none=>rfl
  |some o=>
   simp only[qE]
   congr 2
   rw[eq_iff_iff]
   by_cases e:j=i
   ·subst e
    rw[hi]
    constructor
    ·rintro⟨_,h2⟩;exact absurd h2 hb
    ·rintro⟨E,_⟩;omega
   ·have:=ne j e
    constructor
    ·rintro⟨E,h2⟩;exact⟨by omega,h2⟩
    ·rintro⟨E,h2⟩;exact⟨by omega,h2⟩
theorem crashOld_size{d:Dsk}(hok:d.Ok)(bits:Int)(t:Nat):∀s∈Qw d bits t,s.length=256:=fun s hs=>by
 obtain⟨i,hi⟩:=List.getElem?_of_mem hs
 unfold Qw at hi
 rw[qi]at hi
 cases ho:d.old[i]? with
 |none=>rw[ho]at hi;cases hi
 |some o=>
  rw[ho]at hi
  have e:=Option.some.inj hi
  have h256:=hok.size o (qu ho)
  simp only at e
  split at e
  ·rw[←e]
   cases hl:Jt d.last i with
   |none=>exact h256
   |some x=>
    unfold Jt at hl
    obtain⟨y,hy,rfl⟩:=Option.map_eq_some_iff.1 hl
    exact(hok.within y (List.mem_of_find?_eq_some hy)).2
  ·rw[←e];exact h256
theorem crashOld_ok{d:Dsk}(hok:d.Ok)(bits:Int)(t:Nat):({ d with old:=Qw d bits t }:Dsk).Ok:=
 ⟨by simp only[Xp];exact hok.n,by simp only[Xp];exact hok.pos,crashOld_size hok bits t,hok.keys,hok.born,hok.clock,fun x hx=>by simp only[Xp];exact hok.within x hx,hok.fuse,trivial⟩
theorem look1_dsk{get:Nat→Option Blk}{q:Nat}{r:Bool}{L:X0}{c:Nat}(h:get q=some (.kv r (QW L) c))(i:Nat):
 Z6 qd get 91 (.map (some q)) (.int .i64 (i:Nat)) false=some (.string (str ((Jt L i).getD []))):=by
 have hi:qd.underlying 3=some (.int .i64):=qv
 have hs:qd.info? 9=some Tryz.t9:=Zx
 have I:Tryz.t9.zero=some (.string ⟨#[]⟩):=rfl
 unfold Z6 aFind aKV
 rw[kt_map]
 simp only[hs,I,flat,if_true,h,hi,aKey,decide_true]
 rcases Vv i L 0 with⟨E,h2⟩|⟨j,x,E,_,_,h2⟩
 ·rw[E,h2];rfl
 ·rw[E,h2];rfl
theorem i64_and1(n:Int):bits .and .i64 n 1=n%2:=by
 have E:(BitVec.ofInt 64 1).toNat=2^1-1:=by decide
 have key:(BitVec.ofInt 64 n&&&BitVec.ofInt 64 1).toNat=(n%((2^64:Nat):Int)).toNat%2^1:=by
  rw[BitVec.toNat_and,BitVec.toNat_ofInt,E,Nat.and_two_pow_sub_one_eq_mod]
 show IntKind.i64.wrap ((BitVec.ofInt 64 n&&&BitVec.ofInt 64 1).toNat:Nat)=n%2
 rw[key,IntKind.wrap_i64]
 omega
theorem crash_spec(M:Mem)(p q g:Nat)(d:Dsk)(hd:DskAt M p q g d)(b:Int):
 Abs.Spec qd 11 [dp p,.int .i64 b] M fun u M'=>u=.tuple #[]∧DskAt M' p q g (d.crash b)∧Only [p,q,g] M M'∧M.size≤M'.size:=by
 have ad:dp p=.pointer (some ⟨p,0,none⟩):=rfl
 have pl:p<M.size:=by obtain⟨s,h⟩:=hd.row;exact Mem.get_lt h
 have ql:=Mem.get_lt hd.kv
 have gl:=Mem.get_lt hd.old
 have hn:=hd.ok.n
 refine WM Tryz.func11 Tryz.results11 Tryz.ntmps11 fun _=>?_
 refine J0 (J0 (R1 @ad ?_))
 refine CF (J3 ?_)
 refine S0 ?_
 refine QB (fun f M'=>f=[(0,.pointer (some ⟨p,0,none⟩))]∧DskAt M' p q g { d with old:=(d.crash b).old }∧Only [g] M M'∧M.size≤M'.size) ?_ ?_
 ·refine J0 (R0 ?_)
  refine⟨by kernel_rfl,_,unsync_spec M p q g d hd,?_⟩
  rintro V M1 ⟨a6,mo⟩
  obtain⟨a,c,rfl⟩:=a6.len
  have s1:=mo.size
  refine S0 ?_
  refine J7 (Jr (fun j f M'=>∃t:Nat,j=(Je d).length-t∧f=[(0,.pointer (some ⟨p,0,none⟩)),(1,.int .i64 b),(9,.slice a (Je d).length c),(10,.int .i64 ((Je d).length:Nat)),(11,.int .i64 (t:Nat))]∧t≤(Je d).length∧
   DskAt M' p q g { d with old:=Qw d b t }∧Only [g] M1 M'∧M'.size=M1.size) (Je d).length ?_ ?_)
  ·refine JK [0,1,9,10,11] ?_
   exact⟨M1,tR _,0,rfl,rfl,by omega,by rw[crashOld_zero];exact hd.same mo.get,Only.refl _ _,rfl⟩
  ·rintro j f M' ⟨t,rfl,rfl,ht,E,ho,a2⟩
   refine J0 (R0 ?_)
   refine J0 (CC (decide ((t:Int)<((Je d).length:Int))) (fun Y=>J3 ?_) (fun Y=>Jn ?_))
   ·have Y:=of_decide_eq_true Y
    obtain⟨i,hi⟩:∃i,(Je d)[t]?=some i:=⟨_,qC (by omega)⟩
    have hm:=unsynced_mem.1 (qu hi)
    have U:=crashOld_succ (bits:=b) hi
    obtain⟨gL,rfl,aJ,gV⟩:=a6.at hi
    have ar:=ho gL _ (by simp;omega) gV
    have z0:(0:Int)≤(t:Int):=by omega
    have cI:((Je d).flatMap encI)[t]?=some (.int .i64 (i:Nat)):=cell_one (f:=fun x:Nat=>Value.int .i64 (x:Nat)) hi false 1
    have aC:(Je d).length≤1024:=Nat.le_trans (List.length_filter_le _ _) (by rw[List.length_range];omega)
    have w1:IntKind.i64.wrap ((t:Int)+1)=((t+1:Nat):Int):=by rw[Xn (by omega) (by omega)];omega
    obtain⟨s,Z⟩:=E.row
    unfold dskC at Z
    simp only at Z
    have al:(0:Int)≤(i:Int):=by omega
    have an:(i:Int)<((Qw d b t).length:Int):=by rw[Xp];have:=hm.1;omega
    obtain⟨sL,ak⟩:∃sL,sL=(Jt d.last i).getD []:=⟨_,rfl⟩
    have a8:=look1_dsk (get:=M'.get) E.kv i
    simp only at a8
    rw[←ak]at a8 U
    refine S0 ?_
    refine QB (fun f M2=>f=[(0,.pointer (some ⟨p,0,none⟩)),(1,.int .i64 b),(9,.slice (some ⟨gL,0,none⟩) (Je d).length c),(10,.int .i64 ((Je d).length:Nat)),(11,.int .i64 (t:Nat))]∧
     DskAt M2 p q g { d with old:=Qw d b (t+1) }∧Only [g] M1 M2∧M2.size=M1.size) ?_ ?_
    ·refine J7 (J0 (R6 @z0 @Y @and_self @ar @qt @cI ?_))
     refine J0 (R0 ?_)
     have tm:(t:Int).tmod 62=((t%62:Nat):Int):=rfl
     have av:min (((t%62:Nat):Int)).toNat IntKind.i64.bits=t%62:=by
      show min (((t%62:Nat):Int)).toNat 64=t%62
      rw[qt];omega
     have ag:(bits .and .i64 (b.fdiv (2^(t%62))) 1==1)=bitOf b t:=by
      rw[i64_and1,Int.fdiv_eq_ediv_of_nonneg _ (Int.pow_nonneg (by decide))]
      unfold bitOf
      rw[Bool.eq_iff_iff,beq_iff_eq,decide_eq_true_eq]
     refine⟨by rw[tm];omega,?_⟩
     rw[tm,av,ag]
     refine CC (bitOf b t) (fun Y=>QG hmix 11 (by kernel_rfl) (by kernel_rfl) ?_) (fun Y=>J3 ?_)
     ·rw[if_pos Y]at U
      have ae:Ji 1 M' g i [.string (str sL)] (some (.cells false 1 ((Qw d b t).map fun s=>.string (str s))))=some (M'.set g (some (.cells false 1 ((Qw d b (t+1)).map fun s=>.string (str s))))):=by
       simp only[Ji]
       rw[if_pos ⟨rfl,by simp only[qD,qw,qp,Xp];have:=hm.1;omega,rfl⟩,U]
       simp only[setL,List.map_set]
      have af:(Value.string (str sL)).cells.toList=[.string (str sL)]:=rfl
      have I:=E.old
      simp only at I
      simp only[zZ,reduceIte,yQ,yW,yX,yZ,yJ,yK,yV,zDk,Jc,Jb,J9,J8,Xx,ad,Z,al,an,and_self,a8,I,qt,af,ae]
      refine JK [0,1,9,10,11] ?_
      refine⟨_,tR _,⟨crashOld_ok hd.ok b (t+1),⟨s,?_⟩,?_,Mem.get_set_same I _,hd.pq,hd.pg,hd.qg⟩,ho.trans (Only.set (by simp) _),by rw[Mem.size_set];exact a2⟩
      ·rw[Mem.get_set_ne hd.pg.symm,Z]
       simp[dskC,Xp]
      ·rw[Mem.get_set_ne hd.qg.symm];exact E.kv
     ·rw[if_neg (by rw[Y];decide)]at U
      refine JK [0,1,9,10,11] ?_
      exact⟨M',tR _,by rw[U];exact E,ho,a2⟩
    ·rintro f M2 ⟨rfl,ai,aq,ah⟩
     refine R1 @w1 ?_
     refine JK [0,1,9,10,11] ?_
     exact⟨_,tR _,(Je d).length-(t+1),⟨t+1,rfl,rfl,by omega,ai,aq,ah⟩,by omega⟩
   ·have Y:=of_decide_eq_false Y
    have am:t=(Je d).length:=by omega
    subst am
    rw[crashOld_all]at E
    refine S0 ?_
    refine JK [0] ?_
    exact⟨M',tR _,E,(fun b x hb hx=>ho b x hb (mo.get b x hx)),by omega⟩
 ·rintro f M2 ⟨rfl,E,ho,a2⟩
  obtain⟨s,Z⟩:=E.row
  unfold dskC at Z
  simp only at Z
  have aa:=E.kv
  simp only at aa
  have ap:=clear_dsk (m:=M2) aa
  obtain⟨M3,O⟩:∃M3,M3=M2.set q (some (.kv false (QW []) d.clock)):=⟨_,rfl⟩
  have r3:=Z
  rw[←Mem.get_set_ne (m:=M2) (o:=some (.kv false (QW []) d.clock)) hd.pq.symm,←O]at r3
  have pF:∀(M0:Mem) a b f x,Ji 1 M0 p 2 [.int .i64 (-1)] (some (.cells false s [a,b,f,x]))=some (M0.set p (some (.cells false s [a,b,.int .i64 (-1),x]))):=fun _ _ _ _ _=>rfl
  have pD:∀(M0:Mem) a b f x,Ji 1 M0 p 3 [.bool false] (some (.cells false s [a,b,f,x]))=some (M0.set p (some (.cells false s [a,b,f,.bool false]))):=fun _ _ _ _ _=>rfl
  have aI:(Value.int .i64 (-1)).cells.toList=[.int .i64 (-1)]:=rfl
  have aB:(Value.bool false).cells.toList=[.bool false]:=rfl
  have r4:=Mem.get_set_same r3 (some (.cells false s [.slice (some ⟨g,0,none⟩) (d.crash b).old.length (d.crash b).old.length,.map (some q),.int .i64 (-1),.bool d.dead]))
  refine J0 (R2 @Z @ap ?_)
  rw[←O]
  refine R6 @r3 @aI @pF @r4 @aB @pD ?_
  have I:=E.old
  simp only at I
  simp only[zZ,reduceIte,yQ,yW,yX,yZ,yJ,yK,yV,zDk,Jc,Jb,J9,J8,Xx,mEnd,sAnswer,sAnswer.sRes]
  refine⟨_,tR _,⟨Dsk.crash_ok hd.ok b,⟨s,Mem.get_set_same r4 _⟩,?_,?_,hd.pq,hd.pg,hd.qg⟩,fun x y hx hy=>?_,by rw[Mem.size_set,Mem.size_set,O,Mem.size_set];exact a2⟩
  ·rw[Mem.get_set_ne hd.pq,Mem.get_set_ne hd.pq,O]
   exact Mem.get_set_same aa _
  ·rw[Mem.get_set_ne hd.pg,Mem.get_set_ne hd.pg,O,Mem.get_set_ne hd.qg]
   exact I
  ·simp at hx
   rw[Mem.get_set_ne (Ne.symm hx.1),Mem.get_set_ne (Ne.symm hx.1),O,Mem.get_set_ne (Ne.symm hx.2.1)]
   exact ho x y (by simp;exact hx.2.2) hy
def freeOf(at' n:Int)(x:Ext):Prop:=x.base+x.head.n≤at'∨n≤x.base-at'
theorem freeFor_iff(at' n:Int)(l:List Ext):freeFor at' n l=true↔∀x∈l,freeOf at' n x:=by
 unfold freeFor freeOf
 rw[List.all_eq_true]
 refine forall_congr' fun x=>imp_congr_right fun _=>?_
 by_cases h1:at'<x.base+x.head.n<;>by_cases h2:x.base-at'<n<;>simp[h1,h2]<;>omega
def Xj(n:Int):Int→List Ext→Int
 |at',[]=>at'
 |at',x::r=>if n≤x.base-at' then at' else Xj n (max at' (x.base+x.head.n)) r
theorem greedy_spec(n lo:Int)(hn:1≤n)(l:List Ext):∀(r pre:List Ext)(a:Int),l=pre++r→r.Pairwise (fun x y=>x.base≤y.base)→lo≤a→(∀x∈pre,x.base+x.head.n≤a)→(∀b,lo≤b→b<a→∃x∈l,¬freeOf b n x)→
 lo≤Xj n a r∧(∀x∈l,freeOf (Xj n a r) n x)∧∀b,lo≤b→b<Xj n a r→∃x∈l,¬freeOf b n x:=by
 intro r
 induction r with
 |nil=>
  intro pre a hl _ Y E O
  rw[Xj]
  refine⟨Y,fun x hx=>?_,O⟩
  rw[hl,qo]at hx
  exact .inl (E x hx)
 |cons x r ih=>
  intro pre a hl U Y E O
  rw[List.pairwise_cons]at U
  rw[Xj]
  by_cases h:n≤x.base-a
  ·rw[if_pos h]
   refine⟨Y,fun y I=>?_,O⟩
   rw[hl,qF,qq]at I
   rcases I with I|rfl|I
   ·exact .inl (E y I)
   ·exact .inr h
   ·have:=U.1 y I
    exact .inr (by omega)
  ·rw[if_neg h]
   refine ih (pre++[x]) (max a (x.base+x.head.n)) (by rw[hl];simp) U.2 (by omega) (fun y I=>?_) (fun b hb hba=>?_)
   ·rw[qF,qJ]at I
    rcases I with I|rfl
    ·have:=E y I;omega
    ·omega
   ·by_cases e:b<a
    ·exact O b hb e
    ·refine⟨x,by rw[hl];simp,fun hf=>?_⟩
     unfold freeOf at hf
     omega
theorem roomGo_spec(n:Int)(l:List Ext)(a:Int)(ha:∀x∈l,freeOf a n x):∀(k:Nat)(lo:Int),lo≤a→(∀b,lo≤b→b<a→∃x∈l,¬freeOf b n x)→roomGo n l k lo=if a<lo+k then some a else none
 |0,lo,h,_=>by rw[roomGo,if_neg (by omega)]
 |k+1,lo,h,hb=>by
  rw[roomGo]
  by_cases e:lo=a
  ·subst e
   rw[if_pos ((freeFor_iff _ _ _).2 ha),if_pos (by omega)]
  ·have hnf:¬freeFor lo n l=true:=fun hf=>by
    obtain⟨x,hx,hx2⟩:=hb lo (Int.le_refl _) (by omega)
    exact hx2 ((freeFor_iff _ _ _).1 hf x hx)
   rw[if_neg hnf,roomGo_spec n l a ha k (lo+1) (by omega) fun b h1 h2=>hb b (by omega) h2]
   by_cases h3:a<lo+1+(k:Int)
   ·rw[if_pos h3,if_pos (by omega)]
   ·rw[if_neg h3,if_neg (by omega)]
theorem roomV_greedy(lo hi n:Int)(l s:List Ext)(hn:1≤n)(h0:0≤lo)(h1:lo≤hi)(hp:∀x,x∈s↔x∈l)(hs:s.Pairwise fun x y=>x.base≤y.base):
 roomV lo hi n l=if n>hi-Xj n lo s then none else some (Xj n lo s):=by
 obtain⟨O,U,I⟩:=greedy_spec n lo hn s s [] lo rfl hs (Int.le_refl _) (fun x hx=>by cases hx) (fun b h1 h2=>by omega)
 obtain⟨a,Y⟩:∃a,a=Xj n lo s:=⟨_,rfl⟩
 rw[←Y]at O U I ⊢
 unfold roomV
 rw[if_neg (by omega),roomGo_spec n l a (fun x hx=>U x ((hp x).2 hx)) _ lo O fun b h1 h2=>by
  obtain⟨x,hx,E⟩:=I b h1 h2
  exact⟨x,(hp x).1 hx,E⟩]
 by_cases e:n>hi-a
 ·rw[if_pos e,if_neg (by omega)]
 ·rw[if_neg e,if_pos (by omega)]
end Go.Proofs.YthohbneadomgdaaGreatDoor
