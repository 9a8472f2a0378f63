/-
  The walk of depot.Open.
-/
import Derived.Test.YteccmcpaheepcaaGreatDoorOnce14
import Derived.Test.YteccmcpaheepcaaGreatDoorOnce10
import Derived.Test.YteccmcpaheepcaaGreatDoorOnce19
import Derived.Test.YteccmcpaheepcaaGreatDoorOnce15
import Derived.Shelf.SlIterI.Nil
import Derived.Shelf.SortM.Plain
import Derived.Shelf.SortM.SortNone
import Derived.Ground.GgzProg
import Derived.Ground.SlgmProg
import Derived.Test.YteccmcpaheepcaaGreatDoorProg
import Derived.Test.YteccmcpaheepcaaGreatDoorOnce13
import Derived.Maps.Own
set_option linter.unusedSimpArgs false
set_option linter.unusedVariables false
set_option linter.unusedSectionVars false
set_option linter.unnecessarySimpa false
set_option linter.defProp false
set_option maxRecDepth 100000
set_option maxHeartbeats 16000000
open Nat renaming reduceLT → yQ, reduceEqDiff → yK, reduceAdd → yV, reduceSub → yY, reduceMul → yU
open Int renaming reduceToNat → yW, reduceLE → yX, reduceEq → yZ, reduceLT → yJ
open List renaming replicate → qc, length_append → qe, getElem?_eq_some_iff → qf, eq_nil_of_length_eq_zero → qi, getElem?_mapIdx → qj, mem_of_getElem? → qk, getElem?_replicate → qm, Pairwise → qo, append_nil → qp, length_map → qr, mem_cons → qt, getElem?_set_ne → qv, length_nil → qx, ext_getElem? → qy, length_replicate → qz, getD_eq_getElem?_getD → qA, nil_append → qB, mem_or_eq_of_mem_set → qC, getElem?_eq_getElem → qD, length_cons → qE, mem_append → qG, getElem?_of_mem → qI, map_map → qK, mem_singleton → qL
open Go.Proofs.Tryz renaming prog → qd, underlying3 → qw, zeroValue3 → qJ
open Nat renaming le_refl → qh, zero_add → qH
open Int renaming le_refl → qq, toNat_natCast → qu
open Option renaming map_some → qF
namespace Go.Proofs.YteccmcpaheepcaaGreatDoor
open Go.RowKit Abs
def OpenAt(M M':Mem)(p q g:Nat)(v:Value)(X:Dsk×Option Dep×Int):Prop:=match X.2.1 with
 |none=>v=.pointer none∧DskAt M' p q g X.1
 |some D=>∃P,v=.pointer (some ⟨P,0,none⟩)∧M.size≤P∧DepAt M' P p q g X.1 D
theorem open_spec(M:Mem)(p q g:Nat)(d:Dsk)(hd:DskAt M p q g d)(secret:ByteArray)(hsec:secret.size≤140737488355000):
 Abs.Spec qd 19 [dp p,.string secret] M fun u M'=>∃v,u=.tuple #[v,.int .i64 (openD d (Sha.headKey secret.data.toList)).2.2]∧OpenAt M M' p q g v (openD d (Sha.headKey secret.data.toList))∧Only [p,q,g] M M'∧M.size≤M'.size:=by
 obtain⟨key,hkey⟩:∃key,key=Sha.headKey secret.data.toList:=⟨_,rfl⟩
 have hkl:key.length≤1000000:=by rw[hkey,ZW];decide
 rw[←hkey]
 obtain⟨Z,hZ⟩:∃Z,Z=openD d key:=⟨_,rfl⟩
 rw[←hZ]
 unfold openD at hZ
 refine Abs.Spec.walkM Tryz.func19 (by rfl) _ Tryz.results19 _ Tryz.ntmps19 (by simp[dp]) ?_
 intro hc hx k
 have hN:=hd.ok.n
 have hpl:p<M.size:=by obtain⟨s,h⟩:=hd.row;exact Q7 h
 have hql:q<M.size:=Q7 hd.kv
 have hgl0:g<M.size:=Q7 hd.old
 have hdp:dp p=.pointer (some ⟨p,0,none⟩):=rfl
 refine J0 (R0 ?_)
 refine J0 (J0 (R0 ?_))
 refine K0 (dlen_spec M p q g d hd) ?_
 refine CC (decide ((d.old.length:Int)<13)) (fun h=>J0 (J1 ?_)) (fun h=>J3 ?_)
 ·rw[if_pos (by have:=of_decide_eq_true h;omega)]at hZ
  refine S0 ?_
  refine T0 ?_
  subst hZ
  exact⟨M,Thin.refl _,_,rfl,⟨rfl,hd⟩,Only.refl _ _,qh _⟩
 have h13:13≤d.old.length:=by have:=of_decide_eq_false h;omega
 rw[if_neg (by omega)]at hZ
 refine S0 ?_
 refine J0 (R0 ?_)
 refine⟨by kernel_rfl,_,keys_spec secret _ (by omega) (by decide) M,?_⟩
 rintro _ M9 ⟨rfl,e9⟩;replace e9:=e9.symm;subst e9
 have hkv:keysV secret.data.toList (⟨#[]⟩:ByteArray).data.toList=.agg #[.string (str (Sha.encKey secret.data.toList [])),.string (str (Sha.macKey secret.data.toList [])),.string (str key)]:=by rw[hkey];rfl
 rw[hkv]
 have hfld:vField qd 94 (some (.agg #[.string (str (Sha.encKey secret.data.toList [])),.string (str (Sha.macKey secret.data.toList [])),.string (str key)])) 2=some (.string (str key)):=by rfl
 obtain⟨D0,hD0⟩:∃D0,D0=Dep.fresh key:=⟨_,rfl⟩
 have hbd:Qo qd 122 [(0,.pointer (some ⟨p,0,none⟩)),(1,.string (str key))]=some (.agg (JQ p D0 (qc 4 (.pointer none)) (qc 8 (.pointer none))).toArray):=by rw[hD0];kernel_rfl
 have hbx:QS qd 122 (.agg (JQ p D0 (qc 4 (.pointer none)) (qc 8 (.pointer none))).toArray)=some (.cells false (J6 qd 122) (JQ p D0 (qc 4 (.pointer none)) (qc 8 (.pointer none)))):=bx_Dep _ rfl
 generalize J6 qd 122=s1 at hbx
 refine S4 @hfld @hdp @hbd @hbx ?_
 obtain⟨M2,hM2⟩:∃M2,M2=M.push (.cells false s1 (JQ p D0 (qc 4 (.pointer none)) (qc 8 (.pointer none)))):=⟨_,rfl⟩
 obtain⟨P,hP⟩:∃P,P=M.size:=⟨_,rfl⟩
 have hg2:M2.get P=some (.cells false s1 (JQ p D0 (qc 4 (.pointer none)) (qc 8 (.pointer none)))):=by rw[hM2,hP,Mem.get_push_new]
 have ho2:Only [p,q,g] M M2:=by rw[hM2];exact Only.push _ _ _
 have hs2:M2.size=M.size+1:=by rw[hM2,Mem.size_push]
 rw[←hM2,←hP]
 have hat0:DepAt M2 P p q g d D0:=⟨hd.only (l:=[]) (by rw[hM2];exact Only.push _ _ _) (by simp) (by simp) (by simp),by rw[hD0];exact fresh_ok key _,⟨s1,_,_,hg2,by rw[hD0];exact ptrs_none _ _ _ _,by rw[hD0];exact ptrs_none _ _ _ _⟩,by omega⟩
 have fin:∀M':Mem,Only [P,p,q,g] M2 M'→Only [p,q,g] M M':=fun M' ho b x hb hx=>by
  have:=Mem.get_lt hx
  exact ho b x (by simp at hb ⊢;exact⟨by omega,hb⟩) (ho2 b x hb hx)
 refine J0 (J0 (R0 ?_))
 refine J8 (Jt (fun j f M'=>∃i:Nat,j=8-i∧i≤8∧(d.dead=true→i=0)∧f=[(0,.pointer (some ⟨p,0,none⟩)),(6,.pointer (some ⟨P,0,none⟩)),(29,.int .i64 (i:Nat))]∧
  DepAt M' P p q g d { D0 with kept:=Jo d key i }∧Only [P,p,q,g] M2 M'∧M2.size≤M'.size) 8 ?_ ?_)
 ·refine JK [0,6,29] ?_
  exact⟨M2,Thin.refl _,0,rfl,by omega,fun _=>rfl,rfl,by subst hD0;exact hat0,Only.refl _ _,qh _⟩
 ·rintro j f M' ⟨i,rfl,hi8,hdz,rfl,hat,ho,hss⟩
  refine J0 (R0 ?_)
  refine J0 (CC (decide ((i:Int)<8)) (fun h=>J3 ?_) (fun h=>Jp ?_))
  ·have h:=of_decide_eq_true h
   have hi:i<8:=by omega
   have w1:IntKind.i64.wrap (5+(i:Int))=((5+i:Nat):Int):=by rw[Xl (by omega) (by omega)];omega
   have w2:IntKind.i64.wrap ((i:Int)+1)=((i+1:Nat):Int):=by rw[Xl (by omega) (by omega)];omega
   have hrd:=read_at (d:=d) (i:=5+i) (by omega)
   have hsl:=sector_len hd.ok (i:=5+i) (by omega)
   simp only[zZ,reduceIte,yQ,yW,yX,yZ,yJ,yK,yV]
   refine J0 (J8 (J0 (R0 ?_)))
   refine J0 (R1 @w1 ?_)
   refine⟨by kernel_rfl,_,read_spec M' p q g d hat.dsk ((5+i:Nat):Int),?_⟩
   rintro _ M9 ⟨rfl,e9⟩;replace e9:=e9.symm;subst e9
   rw[hrd]
   cases hdd:d.dead with
   |true=>
    rw[if_pos hdd]at hZ
    have q1:((7:Int) !=0)=true:=rfl
    simp only[if_true,zZ,reduceIte,yQ,yW,yX,yZ,yJ,yK,yV,zDk,Jc,Jb,Ja,J9,XQ]
    refine J0 (J0 (R1 @q1 ?_))
    refine CT (J0 (R0 ?_))
    refine T0 ?_
    subst hZ
    exact⟨_,Thin.refl _,_,rfl,⟨rfl,hat.dsk⟩,fin _ ho,by omega⟩
   |false=>
   have q1:((0:Int) !=0)=false:=rfl
   simp only[if_false,Bool.false_eq_true,zZ,reduceIte,yQ,yW,yX,yZ,yJ,yK,yV,zDk,Jc,Jb,Ja,J9,XQ]
   refine J0 (J0 (R1 @q1 ?_))
   refine CF (J3 ?_)
   refine S0 ?_
   refine J0 (R0 ?_)
   refine⟨by kernel_rfl,_,ctake_at (d.sector (5+i)) hsl M',?_⟩
   rintro _ M9 ⟨rfl,e9⟩;replace e9:=e9.symm;subst e9
   have hal:Qd qd 102=some (.cells false (J6 qd 102) noExt.cells):=al_Ext
   generalize J6 qd 102=s2 at hal
   have agg8:∀x:Ext,(Value.agg x.cells.toArray).cells.toList=x.cells:=fun _=>rfl
   have put8:∀(M0:Mem)(b:Nat)(x y:Ext),Ji 8 M0 b 0 y.cells (some (.cells false s2 x.cells))=some (M0.set b (some (.cells false s2 y.cells))):=fun _ _ _ _=>rfl
   have row8:∀(x:Ext),Jv 8 0 (some (.cells false s2 x.cells))=some (.agg x.cells.toArray):=fun _=>rfl
   refine S4 @hal @Mem.get_push_new @agg8 @put8 ?_
   obtain⟨X,hX⟩:∃X,X=Xb (d.sector (5+i)):=⟨_,rfl⟩
   have hst:Jo d key (i+1)=(Jo d key i).set i (XD d key (Jo d key i) i):=rfl
   unfold XD at hst
   rw[←hX]at hst ⊢
   obtain⟨b4,hb4⟩:∃b,b=M'.size:=⟨_,rfl⟩
   obtain⟨M4,hM4⟩:∃M4,M4=(M'.push (.cells false s2 noExt.cells)).set M'.size (some (.cells false s2 X.1.cells)):=⟨_,rfl⟩
   rw[←hM4,←hb4]
   have g4:M4.get b4=some (.cells false s2 X.1.cells):=by rw[hM4,hb4];exact Mem.get_set_same (Mem.get_push_new _ _) _
   have mo4:More M' M4:=⟨fun b x hb=>by
    have:=Mem.get_lt hb
    rw[hM4,Mem.get_set_ne (by omega),Mem.get_push_old this];exact hb,by rw[hM4,Mem.size_set,Mem.size_push];omega⟩
   have hs4:=mo4.size
   have ho4:Only [P,p,q,g] M2 M4:=fun b x hb hx=>mo4.get _ _ (ho b x hb hx)
   have hat4:=hat.same mo4.get
   cases q2:(X.2==0)with
   |false=>
    have hno:Jo d key (i+1)=Jo d key i:=by
     rw[hst,if_neg (fun h=>by rw[h.1]at q2;cases q2)]
     exact set_same (Up d key i i (qh _) hi)
    refine J0 (R1 @q2 ?_)
    refine CF (J3 ?_)
    refine S0 ?_
    refine R1 @w2 ?_
    refine JK [0,6,29] ?_
    exact⟨M4,Thin.refl _,8-(i+1),⟨i+1,rfl,by omega,(fun h=>by cases h),rfl,by rw[hno];exact hat4,ho4,by omega⟩,by omega⟩
   |true=>
    have hX0:X.2=0:=by simpa using q2
    have hmx:JB X.1=true:=by rw[hX];exact catTake_may (by rw[←hX];exact hX0)
    refine J0 (R3 @q2 @g4 @row8 ?_)
    refine⟨by kernel_rfl,_,fits_spec P p q g d _ M4 hat4 (by subst hD0;exact hkl) X.1 hmx,?_⟩
    rintro _ M5 ⟨rfl,mo5⟩
    have hs5:=mo5.size
    have g5:=mo5.get _ _ g4
    have ho5:Only [P,p,q,g] M2 M5:=fun b x hb hx=>mo5.get _ _ (ho4 b x hb hx)
    have hat5:=hat4.same mo5.get
    have hfe:XX ({ D0 with kept:=Jo d key i }:Dep).key d.old.length ({ D0 with kept:=Jo d key i }:Dep).places X.1=XX key d.old.length (Qq (Jo d key i) []) X.1:=by
     subst hD0
     unfold Dep.places Dep.fresh
     simp only
     rw[places_none]
    rw[hfe]
    refine S0 ?_
    refine CC (XX key d.old.length (Qq (Jo d key i) []) X.1) (fun hq=>J1 ?_) (fun hq=>J3 ?_)
    ·rw[if_pos ⟨hX0,hq⟩]at hst
     obtain⟨s5,vo5,vk5,hrow5,ho5r,hk5⟩:=hat5.row
     have l4:vo5.length=4:=by rw[ho5r.len,hat5.ok.opn]
     have l8:vk5.length=8:=by rw[hk5.len,hat5.ok.kept]
     have ln:=VX p { D0 with kept:=Jo d key i } vo5 vk5 l4 l8
     have z0:(0:Int)≤(i:Int):=by omega
     have z8:(i:Int)<((8:Nat):Int):=by omega
     have z8':(i:Int)<8:=by omega
     have hput:Ji 1 M5 P (7+i) [.pointer (some ⟨b4,0,none⟩)] (some (.cells false s5 (JQ p { D0 with kept:=Jo d key i } vo5 vk5)))=some (M5.set P (some (.cells false s5 ((JQ p { D0 with kept:=Jo d key i } vo5 vk5).set (7+i) (.pointer (some ⟨b4,0,none⟩)))))):=by
      simp only[Ji]
      rw[if_pos ⟨rfl,by show 7+i+1≤(JQ p { D0 with kept:=Jo d key i } vo5 vk5).length;omega,rfl⟩]
      rfl
     have nP:b4∉ [P,p,q,g]:=by
      simp only[qt,List.not_mem_nil,or_false]
      omega
     have hfin:=hat5.turnK ho5r hk5 hrow5 i hi (some X.1) (fun y hy=>by cases hy;have:=fits_fitX hq;subst hD0;exact this) (.pointer (some ⟨b4,0,none⟩)) ⟨b4,s2,nP,rfl,g5⟩
     simp only at hfin
     rw[←hst]at hfin
     refine S7 @hrow5 @z0 @z8 @z8' @and_self @qu @hput ?_
     refine R1 @w2 ?_
     refine JK [0,6,29] ?_
     exact⟨_,Thin.refl _,8-(i+1),⟨i+1,rfl,by omega,(fun h=>by cases h),rfl,hfin,ho5.trans (Only.set (by simp) _),by rw[Mem.size_set];omega⟩,by omega⟩
    ·have hno:Jo d key (i+1)=Jo d key i:=by
      rw[hst,if_neg (fun h=>by rw[h.2]at hq;cases hq)]
      exact set_same (Up d key i i (qh _) hi)
     refine S0 ?_
     refine R1 @w2 ?_
     refine JK [0,6,29] ?_
     exact⟨M5,Thin.refl _,8-(i+1),⟨i+1,rfl,by omega,(fun h=>by cases h),rfl,by rw[hno];exact hat5,ho5,by omega⟩,by omega⟩
  ·have h:=of_decide_eq_false h
   obtain rfl:i=8:=by omega
   have hdd:d.dead=false:=by
    cases hdd:d.dead with
    |false=>rfl
    |true=>have:=hdz hdd;omega
   rw[if_neg (by rw[hdd];decide)]at hZ
   obtain⟨K,hK⟩:∃K,K=Jo d key 8:=⟨_,rfl⟩
   rw[←hK]at hZ hat
   refine S0 ?_
   refine J0 (J0 (R0 ?_))
   refine J8 (Jt (fun j f M'=>∃i:Nat,j=4-i∧i≤4∧f=[(0,.pointer (some ⟨p,0,none⟩)),(6,.pointer (some ⟨P,0,none⟩)),(60,.int .i64 (i:Nat))]∧(Jl key K d i).2.2=0∧(Jl key K d i).1.dead=false∧(Jl key K d i).1.old.length=d.old.length∧
    DepAt M' P p q g (Jl key K d i).1 { D0 with kept:=K,opn:=(Jl key K d i).2.1 }∧Only [P,p,q,g] M2 M'∧M2.size≤M'.size) 4 ?_ ?_)
   ·refine JK [0,6,60] ?_
    exact⟨M',Thin.refl _,0,rfl,by omega,rfl,rfl,hdd,rfl,by subst hD0;exact hat,ho,hss⟩
   ·clear hat ho hss
    rintro j f M' ⟨i,rfl,hi4,rfl,herr,hdi,hli,hat,ho,hss⟩
    refine J0 (R0 ?_)
    obtain⟨di,hdi_⟩:∃di,di=(Jl key K d i).1:=⟨_,rfl⟩
    obtain⟨O,hO⟩:∃O,O=(Jl key K d i).2.1:=⟨_,rfl⟩
    have hup:Jl key K d (i+1)=X8 key K di O i:=by
     show(if(Jl key K d i).2.2≠0 then Jl key K d i else X8 key K (Jl key K d i).1 (Jl key K d i).2.1 i)=_
     rw[if_neg (by rw[herr];decide),hdi_,hO]
    unfold X8 at hup
    refine J0 (CC (decide ((i:Int)<4)) (fun h=>J3 ?_) (fun h=>Jp ?_))
    ·have h:=of_decide_eq_true h
     have hi:i<4:=by omega
     rw[←hdi_]at hdi hli hat
     rw[←hO]at hat
     have w1:IntKind.i64.wrap (1+(i:Int))=((1+i:Nat):Int):=by rw[Xl (by omega) (by omega)];omega
     have w2:IntKind.i64.wrap ((i:Int)+1)=((i+1:Nat):Int):=by rw[Xl (by omega) (by omega)];omega
     have hrd:=read_at (d:=di) (i:=1+i) (by omega)
     rw[if_neg (by rw[hdi];decide)]at hrd
     have hsl:=sector_len hat.dsk.ok (i:=1+i) (by omega)
     simp only[zZ,reduceIte,yQ,yW,yX,yZ,yJ,yK,yV]
     refine J0 (J8 (J0 (R0 ?_)))
     refine J0 (R1 @w1 ?_)
     refine⟨by kernel_rfl,_,read_spec M' p q g di hat.dsk ((1+i:Nat):Int),?_⟩
     rintro _ M9 ⟨rfl,e9⟩;replace e9:=e9.symm;subst e9
     rw[hrd]
     have q1:((0:Int) !=0)=false:=rfl
     refine S0 ?_
     refine J0 (J0 (R1 @q1 ?_))
     refine CF (J3 ?_)
     refine S0 ?_
     refine J0 (R0 ?_)
     refine⟨by kernel_rfl,_,jtake_at (di.sector (1+i)) hsl M',?_⟩
     rintro _ M9 ⟨rfl,e9⟩;replace e9:=e9.symm;subst e9
     have hal:Qd qd 132=some (.cells false (J6 qd 132) noRec.cells):=al_Rec
     generalize J6 qd 132=s2 at hal
     have agg13:∀x:Rec,(Value.agg x.cells.toArray).cells.toList=x.cells:=fun _=>rfl
     have put13:∀(M0:Mem)(b:Nat)(x y:Rec),Ji 13 M0 b 0 y.cells (some (.cells false s2 x.cells))=some (M0.set b (some (.cells false s2 y.cells))):=fun _ _ _ _=>rfl
     have row8:∀(x:Rec),Jv 8 0 (some (.cells false s2 x.cells))=some (.agg x.x.cells.toArray):=fun _=>rfl
     refine S4 @hal @Mem.get_push_new @agg13 @put13 ?_
     obtain⟨X,hX⟩:∃X,X=QM (di.sector (1+i)):=⟨_,rfl⟩
     rw[←hX]at hup ⊢
     obtain⟨b4,hb4⟩:∃b,b=M'.size:=⟨_,rfl⟩
     obtain⟨M4,hM4⟩:∃M4,M4=(M'.push (.cells false s2 noRec.cells)).set M'.size (some (.cells false s2 X.1.cells)):=⟨_,rfl⟩
     rw[←hM4,←hb4]
     have g4:M4.get b4=some (.cells false s2 X.1.cells):=by rw[hM4,hb4];exact Mem.get_set_same (Mem.get_push_new _ _) _
     have mo4:More M' M4:=⟨fun b x hb=>by
      have:=Mem.get_lt hb
      rw[hM4,Mem.get_set_ne (by omega),Mem.get_push_old this];exact hb,by rw[hM4,Mem.size_set,Mem.size_push];omega⟩
     have hs4:=mo4.size
     have ho4:Only [P,p,q,g] M2 M4:=fun b x hb hx=>mo4.get _ _ (ho b x hb hx)
     have hat4:=hat.same mo4.get
     cases q2:(X.2==0)with
     |false=>
      have hnf:¬(X.2=0∧XX key di.old.length (Qq K O) X.1.x=true):=fun h=>by rw[h.1]at q2;cases q2
      obtain⟨M5,e5⟩:∃M5,M5=M4:=⟨_,rfl⟩
      rw[←e5]at hat4 ho4 hs4 ⊢
      have hat5:=hat4
      have ho5:=ho4
      refine J0 (R1 @q2 ?_)
      rw[if_neg hnf]at hup
      refine CF (J0 (J1 ?_))
      cases q3:(X.2 !=8)with
      |false=>
       rw[if_neg (by simpa using q3)]at hup
       refine S1 @q3 ?_
       refine CF (J3 ?_)
       refine S0 ?_
       refine R1 @w2 ?_
       refine JK [0,6,60] ?_
       exact⟨M5,Thin.refl _,4-(i+1),⟨i+1,rfl,by omega,rfl,by rw[hup],by rw[hup];exact hdi,by rw[hup];exact hli,by rw[hup];exact hat5,ho5,by omega⟩,by omega⟩
      |true=>
       rw[if_pos (by simpa using q3)]at hup
       obtain⟨Wd,hWd⟩:∃Wd,Wd=di.write ((1+i:Nat):Int) []:=⟨_,rfl⟩
       have hwl:Wd.1.old.length=di.old.length:=by rw[hWd];exact QH _ _ _
       have hwa:Wd.2=0→Wd.1.dead=false:=fun h0=>by rw[hWd]at h0 ⊢;exact(Dsk.write_alive (by omega) (by decide) h0).2
       have ws:=Z1 M5 p q g di hat5.dsk ((1+i:Nat):Int) [] (by simp)
       rw[←hWd]at ws hup
       refine S1 @q3 ?_
       refine CT (J0 (R1 @w1 ?_))
       refine⟨by kernel_rfl,_,ws,?_⟩
       rintro _ M6 ⟨rfl,hd6,ho6,hs6⟩
       have ho6':Only [p,q,g] M5 M6:=ho6.mono (by simp)
       have hat6:=hat5.disk hd6 hwl ho6'
       have ho7:Only [P,p,q,g] M2 M6:=ho5.trans (ho6'.mono (by simp))
       refine S0 ?_
       refine J0 (R0 ?_)
       refine CC (Wd.2 !=0) (fun hq=>J0 (J1 ?_)) (fun hq=>J3 ?_)
       ·have h4:Jl key K d 4=Jl key K d (i+1):=opn_stick (by rw[hup];simpa using hq) 4 (by omega)
        rw[h4,hup,if_pos (by simpa using hq)]at hZ
        refine S0 ?_
        refine T0 ?_
        subst hZ
        exact⟨_,Thin.refl _,_,rfl,⟨rfl,hd6⟩,fin _ ho7,by omega⟩
       ·refine S0 ?_
        refine R1 @w2 ?_
        refine JK [0,6,60] ?_
        exact⟨M6,Thin.refl _,4-(i+1),⟨i+1,rfl,by omega,rfl,by rw[hup];simpa using hq,by rw[hup];exact hwa (by simpa using hq),by rw[hup];exact hwl.trans hli,by rw[hup];exact hat6,ho7,by omega⟩,by omega⟩
     |true=>
      have hX0:X.2=0:=by simpa using q2
      have hmx:=jouTake_may (s:=di.sector (1+i)) (by rw[←hX];exact hX0)
      rw[←hX]at hmx
      refine J0 (R3 @q2 @g4 @row8 ?_)
      refine⟨by kernel_rfl,_,fits_spec P p q g di _ M4 hat4 (by subst hD0;exact hkl) X.1.x hmx.1,?_⟩
      rintro _ M5 ⟨rfl,mo5⟩
      have hs5:=mo5.size
      have g5:=mo5.get _ _ g4
      have ho5:Only [P,p,q,g] M2 M5:=fun b x hb hx=>mo5.get _ _ (ho4 b x hb hx)
      have hat5:=hat4.same mo5.get
      have hfe:XX ({ D0 with kept:=K,opn:=O }:Dep).key di.old.length ({ D0 with kept:=K,opn:=O }:Dep).places X.1.x=XX key di.old.length (Qq K O) X.1.x:=by subst hD0;rfl
      rw[hfe]
      refine S0 ?_
      cases hq:XX key di.old.length (Qq K O) X.1.x with
      |true=>
       rw[if_pos ⟨hX0,hq⟩]at hup
       obtain⟨s5,vo5,vk5,hrow5,ho5r,hk5⟩:=hat5.row
       have l4:vo5.length=4:=by rw[ho5r.len,hat5.ok.opn]
       have l8:vk5.length=8:=by rw[hk5.len,hat5.ok.kept]
       have ln:=VX p { D0 with kept:=K,opn:=O } vo5 vk5 l4 l8
       have z0:(0:Int)≤(i:Int):=by omega
       have z8:(i:Int)<((4:Nat):Int):=by omega
       have z8':(i:Int)<4:=by omega
       have hput:Ji 1 M5 P (3+i) [.pointer (some ⟨b4,0,none⟩)] (some (.cells false s5 (JQ p { D0 with kept:=K,opn:=O } vo5 vk5)))=some (M5.set P (some (.cells false s5 ((JQ p { D0 with kept:=K,opn:=O } vo5 vk5).set (3+i) (.pointer (some ⟨b4,0,none⟩)))))):=by
        simp only[Ji]
        rw[if_pos ⟨rfl,by show 3+i+1≤(JQ p { D0 with kept:=K,opn:=O } vo5 vk5).length;omega,rfl⟩]
        rfl
       have nP:b4∉ [P,p,q,g]:=by
        simp only[qt,List.not_mem_nil,or_false]
        omega
       have hfin:=hat5.turnO ho5r hk5 hrow5 i hi (some X.1) (fun y hy=>by cases hy;exact⟨by have:=fits_fitX hq;subst hD0;exact this,hmx.2⟩) (.pointer (some ⟨b4,0,none⟩)) ⟨b4,s2,nP,rfl,g5⟩
       refine CT (R7 @hrow5 @z0 @z8 @z8' @and_self @qu @hput ?_)
       refine R1 @w2 ?_
       refine JK [0,6,60] ?_
       exact⟨_,Thin.refl _,4-(i+1),⟨i+1,rfl,by omega,rfl,by rw[hup],by rw[hup];exact hdi,by rw[hup];exact hli,by rw[hup];exact hfin,ho5.trans (Only.set (by simp) _),by rw[Mem.size_set];omega⟩,by omega⟩
      |false=>
       have hnf:¬(X.2=0∧XX key di.old.length (Qq K O) X.1.x=true):=fun h=>by rw[h.2]at hq;cases hq
       rw[if_neg hnf]at hup
       refine CF (J0 (J1 ?_))
       cases q3:(X.2 !=8)with
       |false=>
        rw[if_neg (by simpa using q3)]at hup
        refine S1 @q3 ?_
        refine CF (J3 ?_)
        refine S0 ?_
        refine R1 @w2 ?_
        refine JK [0,6,60] ?_
        exact⟨M5,Thin.refl _,4-(i+1),⟨i+1,rfl,by omega,rfl,by rw[hup],by rw[hup];exact hdi,by rw[hup];exact hli,by rw[hup];exact hat5,ho5,by omega⟩,by omega⟩
       |true=>
        rw[if_pos (by simpa using q3)]at hup
        obtain⟨Wd,hWd⟩:∃Wd,Wd=di.write ((1+i:Nat):Int) []:=⟨_,rfl⟩
        have hwl:Wd.1.old.length=di.old.length:=by rw[hWd];exact QH _ _ _
        have hwa:Wd.2=0→Wd.1.dead=false:=fun h0=>by rw[hWd]at h0 ⊢;exact(Dsk.write_alive (by omega) (by decide) h0).2
        have ws:=Z1 M5 p q g di hat5.dsk ((1+i:Nat):Int) [] (by simp)
        rw[←hWd]at ws hup
        refine S1 @q3 ?_
        refine CT (J0 (R1 @w1 ?_))
        refine⟨by kernel_rfl,_,ws,?_⟩
        rintro _ M6 ⟨rfl,hd6,ho6,hs6⟩
        have ho6':Only [p,q,g] M5 M6:=ho6.mono (by simp)
        have hat6:=hat5.disk hd6 hwl ho6'
        have ho7:Only [P,p,q,g] M2 M6:=ho5.trans (ho6'.mono (by simp))
        refine S0 ?_
        refine J0 (R0 ?_)
        refine CC (Wd.2 !=0) (fun hq=>J0 (J1 ?_)) (fun hq=>J3 ?_)
        ·have h4:Jl key K d 4=Jl key K d (i+1):=opn_stick (by rw[hup];simpa using hq) 4 (by omega)
         rw[h4,hup,if_pos (by simpa using hq)]at hZ
         refine S0 ?_
         refine T0 ?_
         subst hZ
         exact⟨_,Thin.refl _,_,rfl,⟨rfl,hd6⟩,fin _ ho7,by omega⟩
        ·refine S0 ?_
         refine R1 @w2 ?_
         refine JK [0,6,60] ?_
         exact⟨M6,Thin.refl _,4-(i+1),⟨i+1,rfl,by omega,rfl,by rw[hup];simpa using hq,by rw[hup];exact hwa (by simpa using hq),by rw[hup];exact hwl.trans hli,by rw[hup];exact hat6,ho7,by omega⟩,by omega⟩
    ·have h:=of_decide_eq_false h
     obtain rfl:i=4:=by omega
     rw[if_neg (by rw[herr];decide),←hdi_,←hO]at hZ
     rw[←hdi_]at hdi hli hat
     rw[←hO]at hat
     obtain⟨E,hE⟩:∃E,E=di.nextE 0:=⟨_,rfl⟩
     rw[←hE]at hZ
     have hel:E.1.old.length=di.old.length:=by rw[hE];exact nextE_len _ _
     refine S0 ?_
     refine J0 (R0 ?_)
     refine⟨by kernel_rfl,_,next_spec M' p q g di hat.dsk 0,?_⟩
     rintro _ M7 ⟨rfl,hd7,ho7,hs7⟩
     rw[←hE]at hd7 ⊢
     have hat7:=hat.disk hd7 hel ho7
     have ho8:Only [P,p,q,g] M2 M7:=ho.trans (ho7.mono (by simp))
     refine S0 ?_
     refine J0 (J0 (R0 ?_))
     refine CC (E.2.2 !=0) (fun hq=>J0 (J1 ?_)) (fun hq=>J3 ?_)
     ·rw[if_pos (by simpa using hq)]at hZ
      refine S0 ?_
      refine T0 ?_
      subst hZ
      exact⟨_,Thin.refl _,_,rfl,⟨rfl,hd7⟩,fin _ ho8,by omega⟩
     rw[if_neg (by simpa using hq)]at hZ
     obtain⟨s5,vo5,vk5,hrow5,ho5r,hk5⟩:=hat7.row
     have hput:Ji 1 M7 P 2 [.int .i64 E.2.1] (some (.cells false s5 (JQ p { D0 with kept:=K,opn:=O } vo5 vk5)))=some (M7.set P (some (.cells false s5 ((JQ p { D0 with kept:=K,opn:=O } vo5 vk5).set 2 (.int .i64 E.2.1))))):=by
      simp only[Ji]
      rw[if_pos ⟨rfl,by simp[JQ],rfl⟩]
      rfl
     have hfin:=hat7.turnE ho5r hk5 hrow5 E.2.1
     refine S0 ?_
     refine J0 (R2 @hrow5 @hput ?_)
     refine J0 (R0 ?_)
     refine T0 ?_
     subst hZ
     refine⟨_,Thin.refl _,_,rfl,⟨P,rfl,by omega,?_⟩,fin _ (ho8.trans (Only.set (by simp) _)),by rw[Mem.size_set];omega⟩
     subst hD0
     exact hfin
def Dp0(key:List UInt8)(ep st:Int):Dep:=⟨key,ep,qc 4 none,qc 8 none,st⟩
def Ze(key:List UInt8)(a:Arc)(ep st:Int)(G:List Bool):Dep:=⟨key,ep,some ⟨a.ext,G⟩::qc 3 none,qc 8 none,st⟩
def Dp2(key:List UInt8)(a:Arc)(ep st:Int):Dep:=⟨key,ep,qc 4 none,some a.ext::qc 7 none,st⟩
def Xy(a:Arc)(G:List Bool):List UInt8:=JW ⟨a.ext,G⟩
section
variable {key : List UInt8} {a : Arc} {ep st : Int} {G : List Bool}
theorem ext_may(hk:ArcOk key a)(hl:a.blocks.length≤6):JB a.ext=true:=by
 have hn:=hk.len
 have h:=VQ hk.may
 unfold JB
 simp only[Bool.and_eq_true,decide_eq_true_eq]
 refine⟨⟨?_,by show(0:Int)≤13;decide⟩,by show(13:Int)≤1024-a.head.n;omega⟩
 unfold Header.may
 exact decide_eq_true ((Header.check_zero _).2 hk.may)
theorem d0_head(id:Int):(Dp0 key ep st).headAt id=(noHead,false,8):=rfl
theorem d1_ext(id:Int):(Ze key a ep st G).ext? id=none:=rfl
theorem d1_rec:(Ze key a ep st G).rec? a.head.id=some (0,⟨a.ext,G⟩):=by
 show X0 (fun r:Rec=>decide (r.x.head.id=a.head.id)) (some ⟨a.ext,G⟩::qc 3 none) 0=_
 unfold X0
 rw[if_pos (decide_eq_true (by rfl))]
theorem d1_head:(Ze key a ep st G).headAt a.head.id=(a.head,false,0):=by
 unfold Dep.headAt
 rw[d1_ext,d1_rec]
 rfl
theorem d2_ext:(Dp2 key a ep st).ext? a.head.id=some (0,a.ext):=by
 show X0 (fun x:Ext=>decide (x.head.id=a.head.id)) (some a.ext::qc 7 none) 0=_
 unfold X0
 rw[if_pos (decide_eq_true (by rfl))]
theorem d0_places:(Dp0 key ep st).places=[]:=rfl
theorem room_first(N n:Int)(h1:1≤n)(h2:n≤7)(hN:20≤N):roomV 13 N n []=some 13:=by
 unfold roomV
 rw[if_neg (by omega)]
 obtain⟨k,hk⟩:∃k,(N-13-n+1).toNat=k+1:=⟨(N-13-n).toNat,by omega⟩
 rw[hk]
 unfold roomGo
 rw[if_pos (by rfl)]
structure Sess(a:Arc)(e:Nat)(d:Dsk)(Gp G:List Bool):Prop where
 hist:Hist a d e (fun X=>X=Gp∨X=G)
 len:(G.length:Int)=a.head.n
 cur:d.sector 1=Jh (Xy a G)
 sure:Sure a d G
 one:∀s,d.poss 1 s→s=Jh (Xy a Gp)∨s=Jh (Xy a G)
 five:∀s,d.poss 5 s→JO s=[]
theorem burnt_dead{d:Dsk}(h:d.fuse=0):d.burnt.dead=true:=by unfold Dsk.burnt;rw[if_pos h]
theorem Uv{d:Dsk}{i:Nat}{x:List UInt8}(hi:i<d.old.length)(hx:x.length≤256)(hd:d.dead=false)(h:(d.write (i:Int) x).2≠0):
 (d.write (i:Int) x).2=7∧(d.write (i:Int) x).1.dead=true∧∀j s,(d.write (i:Int) x).1.poss j s↔d.poss j s:=by
 rw[Dsk.write_eq hi hx,if_neg (by rw[hd];decide)]at h ⊢
 split at h
 ·rename_i hf
  rw[if_pos hf]
  exact⟨rfl,burnt_dead hf,fun j s=>Dsk.burnt_poss⟩
 ·exact absurd rfl h
theorem sync_bad{d:Dsk}(hn:0<d.old.length)(hd:d.dead=false)(h:d.sync.2≠0):
 d.sync.2=7∧d.sync.1.dead=true∧∀j s,d.sync.1.poss j s↔d.poss j s:=by
 rw[Dsk.sync_eq hn,if_neg (by rw[hd];decide)]at h ⊢
 split at h
 ·rename_i hf
  rw[if_pos hf]
  exact⟨rfl,burnt_dead hf,fun j s=>Dsk.burnt_poss⟩
 ·exact absurd rfl h
theorem sync_alive{d:Dsk}(hn:0<d.old.length)(h0:d.sync.2=0):d.dead=false∧d.sync.1.dead=false:=by
 rw[Dsk.sync_eq hn]at h0 ⊢
 split at h0
 ·cases h0
 ·split at h0
  ·cases h0
  ·rename_i h1 h2
   rw[if_neg h1,if_neg h2]
   refine⟨by simpa using h1,?_⟩
   show d.burnt.dead=false
   unfold Dsk.burnt
   rw[if_neg h2]
   simpa using h1
theorem Uu{d:Dsk}{i:Nat}{x:List UInt8}(hi:i<d.old.length)(hx:x.length≤256)(h0:(d.write (i:Int) x).2=0):(d.write (i:Int) x).1.sector i=Jh x:=by
 rw[Dsk.write_sector hi hx h0,if_pos rfl]
theorem sure_synced{a:Arc}{d:Dsk}{G:List Bool}{k:Nat}{b:List UInt8}(hb:a.blocks[k]?=some b)(hG:Sure a d G)(hn:0<d.old.length)(hcur:d.sector (13+k)=Jh b)(h0:d.sync.2=0):Sure a d.sync.1 (G.set k true):=fun j c hj hc t ht=>by
 have e:=Dsk.sync_done hn h0 ht
 by_cases ejk:j=k
 ·subst ejk
  rw[hb]at hc;cases hc
  rw[e,hcur]
 ·rw[qv (fun h=>ejk h.symm)]at hj
  exact hG j c hj hc t (Dsk.sync_poss hn ht)
theorem Hist.cong{a:Arc}{d d':Dsk}{e:Nat}{P:List Bool→Prop}(h:Hist a d e P)(hok:d'.Ok)(hn:d'.old.length=d.old.length)(hp:∀i t,d'.poss i t↔d.poss i t):Hist a d' e P:=
 h.less hok hn fun i t ht=>(hp i t).1 ht
theorem sess_stage{e:Nat}{d:Dsk}{Gp:List Bool}(hk:ArcOk key a)(hl:a.blocks.length≤6)(h:Sess a e d Gp G)(hd:d.dead=false)(k:Nat)(b:List UInt8)(hb:a.blocks[k]?=some b)(hG:G.getD k false=false):
 (Dep.staged1 d (Ze key a ep st G) 0 ⟨a.ext,G⟩ (k:Int) b).2.2=0∧(Dep.staged1 d (Ze key a ep st G) 0 ⟨a.ext,G⟩ (k:Int) b).2.1=Ze key a ep (st+1) (G.set k true)∧
  Sess a e (Dep.staged1 d (Ze key a ep st G) 0 ⟨a.ext,G⟩ (k:Int) b).1 G (G.set k true)∧(Dep.staged1 d (Ze key a ep st G) 0 ⟨a.ext,G⟩ (k:Int) b).1.dead=false∧(d.live→(Dep.staged1 d (Ze key a ep st G) 0 ⟨a.ext,G⟩ (k:Int) b).1.live)
 ∨¬d.live∧(Dep.staged1 d (Ze key a ep st G) 0 ⟨a.ext,G⟩ (k:Int) b).2.2=7∧(∃st',(st'=st∨st'=st+1)∧(Dep.staged1 d (Ze key a ep st G) 0 ⟨a.ext,G⟩ (k:Int) b).2.1=Ze key a ep st' G)∧
  Hist a (Dep.staged1 d (Ze key a ep st G) 0 ⟨a.ext,G⟩ (k:Int) b).1 e (fun X=>X=Gp∨X=G)∧(∀s,(Dep.staged1 d (Ze key a ep st G) 0 ⟨a.ext,G⟩ (k:Int) b).1.poss 1 s→s=Jh (Xy a Gp)∨s=Jh (Xy a G))∧(Dep.staged1 d (Ze key a ep st G) 0 ⟨a.ext,G⟩ (k:Int) b).1.dead=true:=by
 have hn40:=h.hist.n
 have hpos:0<d.old.length:=by omega
 have hkl:=(qf.1 hb).1
 have hbl:b.length=224:=hk.size b (qk hb)
 have hwi:13+k<d.old.length:=by omega
 have hx:b.length≤256:=by omega
 have hm:=ext_may hk hl
 have hGl:G.length=a.blocks.length:=by have:=h.len;have:=hk.len;omega
 obtain⟨W,hW⟩:∃W,W=d.write ((13+k:Nat):Int) b:=⟨_,rfl⟩
 have hWe:d.write ((⟨a.ext,G⟩:Rec).x.base+(k:Int)) b=W:=by rw[hW];congr 1
 obtain⟨Y,hY⟩:∃Y,Y=W.1.sync:=⟨_,rfl⟩
 obtain⟨U,hU⟩:∃U,U=Y.1.write ((1+0:Nat):Int) (Xy a (G.set k true)):=⟨_,rfl⟩
 have hrest:=stage_rest (d:=d) (D:=Ze key a ep st G) (k:=0) (r:=⟨a.ext,G⟩) (i:=(k:Int)) (s:=b) hWe.symm hY (show U=_ from hU)
 obtain⟨Z,hZ⟩:∃Z,Z=Dep.staged1 d (Ze key a ep st G) 0 ⟨a.ext,G⟩ (k:Int) b:=⟨_,rfl⟩
 rw[←hZ]at hrest ⊢
 have hist1:Hist a W.1 e (fun X=>X=Gp∨X=G):=by rw[hW];exact h.hist.data hb hx (by omega)
 have wp:∀i t,W.1.poss i t→d.poss i t∨(i=13+k∧t=Jh b):=fun i t ht=>by rw[hW]at ht;exact Dsk.write_poss hwi hx ht
 have one1:∀s,W.1.poss 1 s→s=Jh (Xy a Gp)∨s=Jh (Xy a G):=fun s hs=>by
  rcases wp 1 s hs with h1|⟨h1,_⟩
  ·exact h.one s h1
  ·omega
 by_cases w0:W.2=0
 ·rw[if_neg (by simp[w0])]at hrest
  have wa:=Dsk.write_alive hwi hx (by rw[←hW];exact w0)
  rw[←hW]at wa
  have ws:W.1.sector (13+k)=Jh b:=by rw[hW];exact Uu hwi hx (by rw[←hW];exact w0)
  have ws1:W.1.sector 1=Jh (Xy a G):=by
   rw[hW,Dsk.write_sector hwi hx (by rw[←hW];exact w0),if_neg (by omega)];exact h.cur
  have hist2:Hist a Y.1 e (fun X=>X=Gp∨X=G):=by rw[hY];exact hist1.sync
  have hWn:0<W.1.old.length:=by have:=hist1.n;omega
  have sure1:Sure a W.1 G:=h.sure.less fun i t _ ht=>by
   rcases wp i t ht with h1|⟨h1,h2⟩
   ·exact .inl h1
   ·exact .inr ⟨k,b,h1,hb,h2⟩
  by_cases y0:Y.2=0
  ·rw[if_neg (by simp[y0])]at hrest
   have ya:=sync_alive hWn (by rw[←hY];exact y0)
   rw[←hY]at ya
   have sure2:Sure a Y.1 (G.set k true):=by rw[hY];exact sure_synced hb sure1 hWn ws (by rw[←hY];exact y0)
   have y1:∀s,Y.1.poss 1 s→s=Jh (Xy a G):=fun s hs=>by
    rw[hY]at hs
    rw[Dsk.sync_done hWn (by rw[←hY];exact y0) hs,ws1]
   have y5:∀s,Y.1.poss 5 s→JO s=[]:=fun s hs=>by
    rw[hY]at hs
    rcases wp 5 s (Dsk.sync_poss hWn hs)with h1|⟨h1,_⟩
    ·exact h.five s h1
    ·omega
   have hGs:((G.set k true).length:Int)=a.head.n:=by rw[List.length_set];exact h.len
   have hYn:20≤Y.1.old.length:=hist2.n
   have hi1:1+0<Y.1.old.length:=by omega
   have hx1:(Xy a (G.set k true)).length≤256:=by unfold Xy;rw[jouText_len hm];decide
   have hist2':Hist a Y.1 e (fun X=>X=G∨X=G.set k true):=⟨hist2.ok,hist2.n,hist2.s0,hist2.free,fun s hs=>.inr ⟨G,h.len,.inl rfl,y1 s hs,fun j c hj hc t ht=>sure2 j c (by
    by_cases e:k=j
    ·subst e;rw[List.getElem?_set_self (by omega)]
    ·rw[qv e];exact hj) hc t ht⟩,fun s hs=>.inl (y5 s hs)⟩
   by_cases u0:U.2=0
   ·left
    rw[if_neg (by simp[u0])]at hrest
    have ua:=Dsk.write_alive hi1 hx1 (by rw[←hU];exact u0)
    rw[←hU]at ua
    have up:∀i t,U.1.poss i t→Y.1.poss i t∨(i=1+0∧t=Jh (Xy a (G.set k true))):=fun i t ht=>by rw[hU]at ht;exact Dsk.write_poss hi1 hx1 ht
    rw[hrest]
    refine⟨rfl,rfl,⟨?_,hGs,?_,?_,?_,?_⟩,ua.2,fun hlv=>?_⟩
    ·show Hist a U.1 e _
     rw[hU]
     exact hist2'.record hx1 (.inr ⟨G.set k true,hGs,.inr rfl,rfl,sure2⟩)
    ·show U.1.sector 1=_
     rw[hU]
     exact Uu hi1 hx1 (by rw[←hU];exact u0)
    ·exact sure2.less fun i t hi ht=>by
      rcases up i t ht with h1|⟨h1,_⟩
      ·exact .inl h1
      ·omega
    ·intro s hs
     rcases up 1 s hs with h1|⟨_,h1⟩
     ·exact .inl (y1 s h1)
     ·exact .inr h1
    ·intro s hs
     rcases up 5 s hs with h1|⟨h1,_⟩
     ·exact y5 s h1
     ·omega
    ·show U.1.live
     rw[hU]
     refine(Dsk.write_live hi1 hx1 ?_).2
     rw[hY]
     refine(Dsk.sync_live hWn ?_).2
     rw[hW]
     exact(Dsk.write_live hwi hx hlv).2
   ·right
    rw[if_pos u0]at hrest
    have ub:=Uv hi1 hx1 ya.2 (by rw[←hU];exact u0)
    rw[←hU]at ub
    rw[hrest]
    refine⟨fun hlv=>?_,ub.1,⟨st+1,.inr rfl,rfl⟩,?_,?_,ub.2.1⟩
    ·apply u0
     rw[hU]
     refine(Dsk.write_live hi1 hx1 ?_).1
     rw[hY]
     refine(Dsk.sync_live hWn ?_).2
     rw[hW]
     exact(Dsk.write_live hwi hx hlv).2
    ·exact hist2.cong (by rw[hU];exact Dsk.write_ok hist2.ok hi1 hx1) (by rw[hU,Dsk.write_old hi1 hx1]) ub.2.2
    ·intro s hs
     exact .inr (y1 s ((ub.2.2 1 s).1 hs))
  ·right
   rw[if_pos y0]at hrest
   have yb:=sync_bad hWn wa.2 (by rw[←hY];exact y0)
   rw[←hY]at yb
   rw[hrest]
   refine⟨fun hlv=>?_,yb.1,⟨st+1,.inr rfl,rfl⟩,hist2,fun s hs=>one1 s ((yb.2.2 1 s).1 hs),yb.2.1⟩
   apply y0
   rw[hY]
   refine(Dsk.sync_live hWn ?_).1
   rw[hW]
   exact(Dsk.write_live hwi hx hlv).2
 ·right
  rw[if_pos w0]at hrest
  have wb:=Uv hwi hx hd (by rw[←hW];exact w0)
  rw[←hW]at wb
  rw[hrest]
  refine⟨fun hlv=>?_,wb.1,⟨st,.inl rfl,rfl⟩,hist1,one1,wb.2.1⟩
  apply w0
  rw[hW]
  exact(Dsk.write_live hwi hx hlv).1
end
def Qr(d p e q:Value)(sec:List UInt8)(L:Value):List Value:=[d,p,e,q,.string (str sec),L]
def ptr(b:Nat):Value:=.pointer (some ⟨b,0,none⟩)
theorem rp_eql(p o:Nat):aBin qd .eql 38 true (.pointer (some ⟨p,o,none⟩)) (.pointer none)=some (.bool false):=by kernel_rfl
theorem hp_eql(p o:Nat):aBin qd .eql 34 true (.pointer (some ⟨p,o,none⟩)) (.pointer none)=some (.bool false):=by kernel_rfl
theorem bb_eql:aBin qd .eql 4 false (.bool false) (.bool false)=some (.bool true):=by kernel_rfl
theorem PtrsAt.none{α:Type}{enc:α→List Value}{K:List Nat}{M M':Mem}{n:Nat}{vs:List Value}(h:PtrsAt enc K M (qc n none) vs):PtrsAt enc K M' (qc n none) vs:=
 ⟨h.len,fun i o hi=>by
  obtain⟨v,h1,h2⟩:=h.at_ i o hi
  rw[qm]at hi
  split at hi<;>cases hi
  exact⟨v,h1,h2⟩⟩
theorem DepAt.only0{M M':Mem}{P p q g:Nat}{d:Dsk}{key:List UInt8}{ep st:Int}(h:DepAt M P p q g d (Dp0 key ep st)){l:List Nat}(ho:Only l M M')(hP:P∉l)(hp:p∉l)(hq:q∉l)(hg:g∉l):DepAt M' P p q g d (Dp0 key ep st):=
 ⟨h.dsk.only ho hp hq hg,h.ok,by
  obtain⟨s,vo,vk,h1,h2,h3⟩:=h.row
  exact⟨s,vo,vk,ho _ _ hP h1,h2.none,h3.none⟩,h.ne⟩
structure HouseAt(M:Mem)(H p q g P n:Nat)(sec:List UInt8)(VL:Value):Prop where
 row:∃s e Q,M.get H=some (.cells false s (Qr (ptr p) (ptr P) (ptr e) (ptr Q) sec VL))∧∃s2 VO VK,M.get Q=some (.cells false s2 (Za e (Sha.headKey sec) 1 VO VK))∧Q≠H∧Q∉ [P,p,q,g]
 dep:DepAt M P p q g (JV n) (Dp0 (Sha.headKey sec) 1 0)
 ne:H∉ [P,p,q,g]
theorem hopen_spec{M:Mem}{H p q g e n bO bL bF s:Nat}{sec:List UInt8}{VL:Value}(hH:M.get H=some (.cells false s (Qr (ptr p) (.pointer none) (ptr e) (.pointer none) sec VL)))(hd:DskAt M p q g (Q6 n))(hr:RB M e n bO bL bF)
 (h13:13≤n) (hn:n≤1024) (hsec:sec.length≤100) (hne:H∉ [p,q,g]) (hHb:H∉ [bO,bL,bF]) (hb:bO∉ [p,q,g]∧bL∉ [p,q,g]∧bF∉ [p,q,g]∧e∉ [p,q,g]):
 Abs.Spec qd 43 [ptr H] M fun u M'=>∃P,u=.bool true∧HouseAt M' H p q g P n sec VL∧Only [H,p,q,g,bO,bL,bF] M M'∧M.size≤M'.size∧M.size≤P:=by
 obtain⟨key,hkey⟩:∃key,key=Sha.headKey sec:=⟨_,rfl⟩
 have q0:((0:Int)==0)=true:=rfl
 have hHl:=Mem.get_lt hH
 obtain⟨_,_,gO⟩:=hr.1.old
 obtain⟨_,_,gF⟩:=hr.1.fresh
 obtain⟨_,gE⟩:=hr.1.row
 have lO:=Mem.get_lt gO
 have lL:=Mem.get_lt hr.2
 have lF:=Mem.get_lt gF
 have hdp:dp p=ptr p:=rfl
 have k0:∀s d p e q L,cellIn 0 (some (.cells false s (Qr d p e q sec L)))=some d:=fun _ _ _ _ _ _=>rfl
 have k2:∀s d p e q L,cellIn 2 (some (.cells false s (Qr d p e q sec L)))=some e:=fun _ _ _ _ _ _=>rfl
 have k4:∀s d p e q L,cellIn 4 (some (.cells false s (Qr d p e q sec L)))=some (.string (str sec)):=fun _ _ _ _ _ _=>rfl
 have hlp:∀b,ptr b=.pointer (some ⟨b,0,none⟩):=fun _=>rfl
 have os:=open_spec M p q g (Q6 n) hd (str sec) (by rw[str_size];omega)
 rw[show(str sec).data.toList=sec from rfl,open_new n h13 hn _,←hkey]at os
 refine WM Tryz.func43 Tryz.results43 Tryz.ntmps43 fun _=>?_
 refine J0 (R0 ?_)
 refine J0 (CW_drawnG hmix [(8,9),(13,14)] (by kernel_rfl) ?_)
 simp only[zZ,reduceIte,yQ,yW,yX,yZ,yJ,yK,yV,zDk,Jc,Jb,Ja,J9,XQ,XN,JM,Qc,QB,isVal,sGuardedV,JJ,Q1,yY,Nat.sub_zero,hlp,hH,k0,k4]
 refine⟨by kernel_rfl,_,os,?_⟩
 rintro _ M1 ⟨v,rfl,hopen,ho1,hs1⟩
 obtain⟨P,rfl,hP,hat⟩:=hopen
 have hH1:=ho1 H _ hne hH
 have hr1:RB M1 e n bO bL bF:=by
  obtain⟨⟨⟨s,a1⟩,⟨L,a2,a3⟩,_,⟨F,a6,a7⟩⟩,a8⟩:=hr
  have a8':=ho1 _ _ hb.2.1 a8
  exact⟨⟨⟨s,ho1 _ _ hb.2.2.2 a1⟩,⟨L,a2,ho1 _ _ hb.1 a3⟩,⟨_,qz,a8'⟩,⟨F,a6,ho1 _ _ hb.2.2.1 a7⟩⟩,a8'⟩
 simp only[zZ,reduceIte,yQ,yW,yX,yZ,yJ,yK,yV,zDk,Jc,Jb,Ja,J9,XQ,XN,JM,Qc,QB,isVal,sGuardedV,JJ,Q1,yY,Nat.sub_zero]
 refine J0 (CW_drawnG hmix [(8,9),(13,14)] (by kernel_rfl) ?_)
 simp only[zZ,reduceIte,yQ,yW,yX,yZ,yJ,yK,yV,zDk,Jc,Jb,Ja,J9,XQ,XN,JM,Qc,QB,isVal,sGuardedV,JJ,Q1,yY,Nat.sub_zero,hlp,hH1,k2,k4]
 refine⟨by kernel_rfl,_,ropen_spec hr1 h13 hn sec (by omega),?_⟩
 rintro _ M2 ⟨Q,s2,VO,VK,rfl,gQ,hQ,ho2,hs2⟩
 rw[←hkey]at gQ
 have pl:p<M.size:=by obtain⟨s,h⟩:=hd.row;exact Mem.get_lt h
 have ql:=Mem.get_lt hd.kv
 have gl:=Mem.get_lt hd.old
 have hat2:DepAt M2 P p q g (JV n) (Dp0 key 1 0):=DepAt.only0 hat ho2 (by simp;omega) (by simp at hb ⊢;omega) (by simp at hb ⊢;omega) (by simp at hb ⊢;omega)
 have hH2:=ho2 H _ hHb hH1
 have p1:Ji 1 M2 H 1 [.pointer (some ⟨P,0,none⟩)] (some (.cells false s (Qr (ptr p) (.pointer none) (ptr e) (.pointer none) sec VL)))=some (M2.set H (some (.cells false s (Qr (ptr p) (ptr P) (ptr e) (.pointer none) sec VL)))):=rfl
 obtain⟨M3,hM3⟩:∃M3,M3=M2.set H (some (.cells false s (Qr (ptr p) (ptr P) (ptr e) (.pointer none) sec VL))):=⟨_,rfl⟩
 have hH3:M3.get H=some (.cells false s (Qr (ptr p) (ptr P) (ptr e) (.pointer none) sec VL)):=by rw[hM3];exact Mem.get_set_same hH2 _
 have p3:Ji 1 M3 H 3 [.pointer (some ⟨Q,0,none⟩)] (some (.cells false s (Qr (ptr p) (ptr P) (ptr e) (.pointer none) sec VL)))=some (M3.set H (some (.cells false s (Qr (ptr p) (ptr P) (ptr e) (ptr Q) sec VL)))):=rfl
 have ag:∀b,(Value.pointer (some ⟨b,0,none⟩)).cells.toList=[.pointer (some ⟨b,0,none⟩)]:=fun _=>rfl
 simp only[zZ,reduceIte,yQ,yW,yX,yZ,yJ,yK,yV,zDk,Jc,Jb,Ja,J9,XQ,XN,JM,Qc,QB,isVal,sGuardedV,JJ,Q1,yY,Nat.sub_zero]
 refine J0 (R3 @hH2 @ag @p1 ?_)
 rw[←hM3]
 refine J0 (R3 @hH3 @ag @p3 ?_)
 refine J0 (R4 @q0 @pp_eql @rp_eql @bb_eql ?_)
 refine T0 ?_
 have hPH:P≠H:=by omega
 have oH:∀b x,b≠H→M2.get b=some x→(M3.set H (some (.cells false s (Qr (ptr p) (ptr P) (ptr e) (ptr Q) sec VL)))).get b=some x:=fun b x hb hx=>by
  rw[Mem.get_set_ne (Ne.symm hb),hM3,Mem.get_set_ne (Ne.symm hb)];exact hx
 refine⟨_,Thin.refl _,P,⟨⟨s,e,Q,Mem.get_set_same hH3 _,s2,VO,VK,by rw[←hkey];exact oH Q _ (by omega) gQ,by omega,by have:=Mem.get_lt hat.row.choose_spec.choose_spec.choose_spec.1;simp;omega⟩,?_,by simp at hne ⊢;omega⟩,?_,by rw[Mem.size_set,hM3,Mem.size_set];omega,hP⟩
 ·rw[←hkey]
  exact hat2.only0 (l:=[H]) (fun b x hb hx=>oH b x (by simpa using hb) hx) (by simp;omega) (by simp at hne ⊢;omega) (by simp at hne ⊢;omega) (by simp at hne ⊢;omega)
 ·intro b x hbl hx
  simp at hbl
  exact oH b x hbl.1 (ho2 b x (by simp;omega) (ho1 b x (by simp;omega) hx))
theorem built_spec(n:Nat)(h13:13≤n)(hn:n≤1024)(sec:List UInt8)(hsec:sec.length≤4000000000000000000)(T:List (List UInt8))(hT:T.length≤4000000000000000000)(hTs:∀t∈T,t.length≤4000000000000000000)(M:Mem)(v:Value)(h:StrsRd M v T):
 Abs.Spec qd 14 [.int .i64 (n:Nat),.string (str sec),v] M fun u M'=>∃H p q g P VL LA M1,u=ptr H∧HouseAt M' H p q g P n (sec.take 100) VL∧LA.map Prod.fst=Uo (sec.take 100) T∧
  ArcsOwn M.size M1 VL LA∧(∀b x,M.get b=some x→M1.get b=some x)∧(∀b x,M1.get b=some x→M'.get b=some x)∧M.size≤M1.size∧M1.size≤H∧M1.size≤p∧M1.size≤q∧M1.size≤g∧M1.size≤P∧M1.size≤M'.size:=by
 have hbs:∀t,JA (str t)=t.length:=fun _=>rfl
 have q0:((0:Int) !=0)=false:=rfl
 have hlp:∀b,ptr b=.pointer (some ⟨b,0,none⟩):=fun _=>rfl
 have hdp:∀b,dp b=.pointer (some ⟨b,0,none⟩):=fun _=>rfl
 have ag:∀b,(Value.pointer (some ⟨b,0,none⟩)).cells.toList=[.pointer (some ⟨b,0,none⟩)]:=fun _=>rfl
 obtain⟨S,hS⟩:∃S,S=sec.take 100:=⟨_,rfl⟩
 have hSl:S.length≤100:=by rw[hS,List.length_take];omega
 rw[←hS]
 refine WM Tryz.func14 Tryz.results14 Tryz.ntmps14 fun _=>?_
 refine J0 (R0 ?_)
 refine QR (fun f M'=>f=[(0,.int .i64 (n:Nat)),(1,.string (str S)),(2,v)]∧M'=M) ?_ ?_
 ·refine J0 (R1 @hbs ?_)
  refine CC (decide (((sec.length:Nat):Int)>100)) (fun hq=>J1 ?_) (fun hq=>J3 ?_)
  ·have hq:=of_decide_eq_true hq
   have sl:=fun get=>Zh get (str sec) 100 (by rw[str_size];omega)
   rw[show(str sec).data.toList=sec from rfl,←hS]at sl
   have sl2:∀get,JY qd get 9 (.string (str sec)) none (some (.int .i64 100))=some (.string (str S)):=sl
   refine S1 @sl2 ?_
   refine JK [0,1,2] ?_
   exact⟨M,Thin.refl _,rfl⟩
  ·have hq:=of_decide_eq_false hq
   refine JK [0,1,2] ?_
   exact⟨M,Thin.refl _,by rw[hS,List.take_of_length_le (by omega)],rfl⟩
 rintro _ M9 ⟨rfl,e9⟩;replace e9:=e9.symm;subst e9
 refine J0 (R0 ?_)
 refine⟨by kernel_rfl,_,made_spec S (by omega) T hT hTs M v h,?_⟩
 rintro VL M1 ⟨LA,hLA,hown,mo1⟩
 obtain⟨a,c,rfl⟩:=hown.1.len
 have bd:Qo qd 41 [(4,.string (str S)),(5,.slice a LA.length c)]=some (.agg (Qr (.pointer none) (.pointer none) (.pointer none) (.pointer none) S (.slice a LA.length c)).toArray):=by kernel_rfl
 have bx:QS qd 41 (.agg (Qr (.pointer none) (.pointer none) (.pointer none) (.pointer none) S (.slice a LA.length c)).toArray)=some (.cells false (J6 qd 41) (Qr (.pointer none) (.pointer none) (.pointer none) (.pointer none) S (.slice a LA.length c))):=bx_House _ rfl
 generalize J6 qd 41=s1 at bx
 obtain⟨VL,hVL⟩:∃VL,VL=Value.slice a LA.length c:=⟨_,rfl⟩
 refine S2 @bd @bx ?_
 rw[←hVL]
 obtain⟨H,hH⟩:∃H,H=M1.size:=⟨_,rfl⟩
 obtain⟨M2,hM2⟩:∃M2,M2=M1.push (.cells false s1 (Qr (.pointer none) (.pointer none) (.pointer none) (.pointer none) S VL)):=⟨_,rfl⟩
 have g2:M2.get H=some (.cells false s1 (Qr (.pointer none) (.pointer none) (.pointer none) (.pointer none) S VL)):=by rw[hM2,hH,Mem.get_push_new]
 have s2z:M2.size=H+1:=by rw[hM2,Mem.size_push,hH]
 rw[←hM2,←hH]
 refine J0 (R0 ?_)
 refine⟨by kernel_rfl,_,new_spec M2 n (by omega) hn,?_⟩
 rintro _ M3 ⟨p,q,g,rfl,hd3,hp,hq,hg,ho3,hs3⟩
 refine S1 @hdp ?_
 refine J0 (R0 ?_)
 refine⟨by kernel_rfl,_,rnew_spec n (by omega) hn M3,?_⟩
 rintro _ M4 ⟨e,bO,bL,bF,rfl,hr4,he,hbO,hbL,hbF,mo4⟩
 have g4:=mo4.get _ _ (ho3 H _ (by simp) g2)
 have p5:Ji 1 M4 H 0 [.pointer (some ⟨p,0,none⟩)] (some (.cells false s1 (Qr (.pointer none) (.pointer none) (.pointer none) (.pointer none) S VL)))=some (M4.set H (some (.cells false s1 (Qr (ptr p) (.pointer none) (.pointer none) (.pointer none) S VL)))):=rfl
 obtain⟨M5,hM5⟩:∃M5,M5=M4.set H (some (.cells false s1 (Qr (ptr p) (.pointer none) (.pointer none) (.pointer none) S VL))):=⟨_,rfl⟩
 have g5:M5.get H=some (.cells false s1 (Qr (ptr p) (.pointer none) (.pointer none) (.pointer none) S VL)):=by rw[hM5];exact Mem.get_set_same g4 _
 have p6:Ji 1 M5 H 2 [.pointer (some ⟨e,0,none⟩)] (some (.cells false s1 (Qr (ptr p) (.pointer none) (.pointer none) (.pointer none) S VL)))=some (M5.set H (some (.cells false s1 (Qr (ptr p) (.pointer none) (ptr e) (.pointer none) S VL)))):=rfl
 obtain⟨M6,hM6⟩:∃M6,M6=M5.set H (some (.cells false s1 (Qr (ptr p) (.pointer none) (ptr e) (.pointer none) S VL))):=⟨_,rfl⟩
 have g6:M6.get H=some (.cells false s1 (Qr (ptr p) (.pointer none) (ptr e) (.pointer none) S VL)):=by rw[hM6];exact Mem.get_set_same g5 _
 have o46:∀b x,b≠H→M4.get b=some x→M6.get b=some x:=fun b x hb hx=>by
  rw[hM6,Mem.get_set_ne (Ne.symm hb),hM5,Mem.get_set_ne (Ne.symm hb)];exact hx
 have s6z:M6.size=M4.size:=by rw[hM6,Mem.size_set,hM5,Mem.size_set]
 have s4z:=mo4.size
 have pl:p<M3.size:=by obtain⟨s,h⟩:=hd3.row;exact Mem.get_lt h
 have ql:=Mem.get_lt hd3.kv
 have gl:=Mem.get_lt hd3.old
 have hd6:DskAt M6 p q g (Q6 n):=(hd3.same mo4.get).only (l:=[H]) (fun b x hb hx=>o46 b x (by simpa using hb) hx) (by simp;omega) (by simp;omega) (by simp;omega)
 have hr6:RB M6 e n bO bL bF:=by
  obtain⟨⟨⟨s,a1⟩,⟨L,a2,a3⟩,_,⟨F,a6,a7⟩⟩,a8⟩:=hr4
  have a8':=o46 _ _ (by omega) a8
  exact⟨⟨⟨s,o46 _ _ (by omega) a1⟩,⟨L,a2,o46 _ _ (by omega) a3⟩,⟨_,qz,a8'⟩,⟨F,a6,o46 _ _ (by omega) a7⟩⟩,a8'⟩
 refine S0 ?_
 refine J0 (J0 (R1 @q0 ?_))
 refine CF (J3 ?_)
 refine S0 ?_
 refine J0 (R3 @g4 @ag @p5 ?_)
 rw[←hM5]
 refine J0 (R3 @g5 @ag @p6 ?_)
 rw[←hM6]
 refine J0 (J0 (R0 ?_))
 refine⟨by kernel_rfl,_,hopen_spec g6 hd6 hr6 h13 hn hSl (by simp;omega) (by simp;omega) (by simp;omega),?_⟩
 rintro _ M7 ⟨P,rfl,hat,ho7,hs7,hP⟩
 refine S0 ?_
 refine CF (J3 ?_)
 refine S0 ?_
 refine J0 (R0 ?_)
 refine T0 ?_
 refine⟨_,Thin.refl _,H,p,q,g,P,VL,LA,M1,rfl,hat,hLA,by rw[hVL];exact hown,mo1.get,fun b x hx=>?_,mo1.size,by omega,by omega,by omega,by omega,by omega,by omega⟩
 have lb:=Mem.get_lt hx
 refine ho7 b x (by simp;omega) (o46 b x (by omega) (mo4.get b x (ho3 b x (by simp) ?_)))
 rw[hM2,Mem.get_push_old lb];exact hx
def Clean(d:Dsk):Prop:=∀i s,d.poss i s→s=d.sector i
theorem crash_clean(d:Dsk)(bits:Int):Clean (d.crash bits):=fun _ _ h=>(Dsk.crash_poss h).2
theorem sync_clean{d:Dsk}(hn:0<d.old.length)(h0:d.sync.2=0):Clean d.sync.1:=fun i s h=>by
 have h1:=Dsk.sync_done hn h0 h
 have hi:i<d.old.length:=by
  rw[Dsk.sync_eq hn]at h h0
  split at h0
  ·cases h0
  ·split at h0
   ·cases h0
   ·rename_i q1 q2
    rw[if_neg q1,if_neg q2]at h
    have:=(Dsk.synced_poss h).1
    rwa [Ql]at this
 rw[h1,Dsk.sync_sector hn hi]
def XF(a:Arc):List Bool:=qc a.head.n.toNat false
section
variable {key : List UInt8} {a : Arc} {ep st : Int} {G : List Bool}
theorem sure_falses(d:Dsk)(n:Nat):Sure a d (qc n false):=fun k b hk _=>by
 rw[qm]at hk
 split at hk<;>cases hk
theorem falses_len(hk:ArcOk key a):((XF a).length:Int)=a.head.n:=by
 have:=VQ hk.may
 unfold XF
 rw[qz];omega
theorem begin_fresh(hk:ArcOk key a)(hl:a.blocks.length≤6){d:Dsk}(hn:20≤d.old.length)(hd:d.dead=false):Dep.begin d (Dp0 key ep st) a.head=Dep.begun d (Dp0 key ep st) a.head 0 13:=by
 have h1:=VQ hk.may
 have h2:=hk.len
 unfold Dep.begin
 rw[if_neg (by rw[hd];decide),if_neg (by show¬a.head.verify key≠0;simp[hk.ver]),d0_head,if_neg (by simp),d0_places]
 have:QZ (Dp0 key ep st).opn 0=some 0:=rfl
 rw[this]
 show(match roomV 13 (d.old.length:Int) a.head.n []with|none=>_|some base=>_)=_
 rw[room_first _ a.head.n (by omega) (by omega) (by omega)]
theorem begin_under(hk:ArcOk key a){d:Dsk}(hd:d.dead=false):Dep.begin d (Ze key a ep st G) a.head=(d,Ze key a ep st G,0):=by
 unfold Dep.begin
 rw[if_neg (by rw[hd];decide),if_neg (by show¬a.head.verify key≠0;simp[hk.ver]),d1_head,if_pos rfl,if_pos rfl]
theorem sess_begin{e:Nat}{d:Dsk}{P:List Bool→Prop}(hk:ArcOk key a)(hl:a.blocks.length≤6)(h:Hist a d e P)(hc:Clean d)(h1:JO (d.sector 1)=[])(h5:JO (d.sector 5)=[])(hd:d.dead=false):
 (Dep.begin d (Dp0 key ep st) a.head).2.2=0∧(Dep.begin d (Dp0 key ep st) a.head).2.1=Ze key a ep st (XF a)∧Sess a e (Dep.begin d (Dp0 key ep st) a.head).1 (XF a) (XF a)∧(Dep.begin d (Dp0 key ep st) a.head).1.dead=false∧(d.live→(Dep.begin d (Dp0 key ep st) a.head).1.live)
 ∨¬d.live∧(Dep.begin d (Dp0 key ep st) a.head).2.2=7∧(Dep.begin d (Dp0 key ep st) a.head).2.1=Dp0 key ep st∧Hist a (Dep.begin d (Dp0 key ep st) a.head).1 e (fun X=>X=XF a)∧(Dep.begin d (Dp0 key ep st) a.head).1.dead=true:=by
 have hn40:=h.n
 have hm:=ext_may hk hl
 rw[begin_fresh hk hl hn40 hd]
 obtain⟨W,hW⟩:∃W,W=d.write ((1+0:Nat):Int) (Xy a (XF a)):=⟨_,rfl⟩
 obtain⟨Y,hY⟩:∃Y,Y=W.1.sync:=⟨_,rfl⟩
 have hrest:Dep.begun d (Dp0 key ep st) a.head 0 13=(if W.2≠0 then(W.1,Dp0 key ep st,W.2)else if Y.2≠0 then(Y.1,Dp0 key ep st,Y.2)else(Y.1,Ze key a ep st (XF a),0)):=by
  rw[hY,hW];rfl
 obtain⟨Z,hZ⟩:∃Z,Z=Dep.begun d (Dp0 key ep st) a.head 0 13:=⟨_,rfl⟩
 rw[←hZ]at hrest ⊢
 have hi:1+0<d.old.length:=by omega
 have hx:(Xy a (XF a)).length≤256:=by unfold Xy;rw[jouText_len hm];decide
 have hist0:Hist a d e (fun X=>X=XF a):=⟨h.ok,h.n,h.s0,h.free,fun s hs=>.inl (by rw[hc 1 s hs];exact h1),fun s hs=>.inl (by rw[hc 5 s hs];exact h5)⟩
 have hist1:Hist a W.1 e (fun X=>X=XF a):=by rw[hW];exact hist0.record hx (.inr ⟨XF a,falses_len hk,rfl,rfl,sure_falses _ _⟩)
 have hWn:0<W.1.old.length:=by have:=hist1.n;omega
 have wp:∀i t,W.1.poss i t→d.poss i t∨(i=1+0∧t=Jh (Xy a (XF a))):=fun i t ht=>by rw[hW]at ht;exact Dsk.write_poss hi hx ht
 by_cases w0:W.2=0
 ·rw[if_neg (by simp[w0])]at hrest
  have wa:=Dsk.write_alive hi hx (by rw[←hW];exact w0)
  rw[←hW]at wa
  have ws:W.1.sector 1=Jh (Xy a (XF a)):=by rw[hW];exact Uu hi hx (by rw[←hW];exact w0)
  have hist2:Hist a Y.1 e (fun X=>X=XF a):=by rw[hY];exact hist1.sync
  by_cases y0:Y.2=0
  ·left
   rw[if_neg (by simp[y0])]at hrest
   have ya:=sync_alive hWn (by rw[←hY];exact y0)
   rw[←hY]at ya
   rw[hrest]
   refine⟨rfl,rfl,⟨hist2.weaken (qh _) fun X hX=>.inl hX,falses_len hk,?_,sure_falses _ _,?_,?_⟩,ya.2,fun hlv=>?_⟩
   ·show Y.1.sector 1=_
    rw[hY,Dsk.sync_sector hWn (by have:=hist1.n;omega),ws]
   ·intro s hs
    have hs:Y.1.poss 1 s:=hs
    rw[hY]at hs
    right
    rw[Dsk.sync_done hWn (by rw[←hY];exact y0) hs,ws]
   ·intro s hs
    have hs:Y.1.poss 5 s:=hs
    rw[hY]at hs
    rcases wp 5 s (Dsk.sync_poss hWn hs)with q|⟨q,_⟩
    ·rw[hc 5 s q];exact h5
    ·omega
   ·show Y.1.live
    rw[hY]
    refine(Dsk.sync_live hWn ?_).2
    rw[hW]
    exact(Dsk.write_live hi hx hlv).2
  ·right
   rw[if_pos y0]at hrest
   have yb:=sync_bad hWn wa.2 (by rw[←hY];exact y0)
   rw[←hY]at yb
   rw[hrest]
   refine⟨fun hlv=>?_,yb.1,rfl,hist2,yb.2.1⟩
   apply y0
   rw[hY]
   refine(Dsk.sync_live hWn ?_).1
   rw[hW]
   exact(Dsk.write_live hi hx hlv).2
 ·right
  rw[if_pos w0]at hrest
  have wb:=Uv hi hx hd (by rw[←hW];exact w0)
  rw[←hW]at wb
  rw[hrest]
  refine⟨fun hlv=>?_,wb.1,rfl,hist1,wb.2.1⟩
  apply w0
  rw[hW]
  exact(Dsk.write_live hi hx hlv).1
theorem take_filled{b:List UInt8}(hb:b.length=224):(Jh b).take 224=b:=by unfold Jh;rw[←hb,List.take_left]
theorem blocks_sure(hk:ArcOk key a)(hl:a.blocks.length≤6){d:Dsk}(hn:20≤d.old.length)(hd:d.dead=false)(h:Sure a d (qc a.blocks.length true)):Xv d a.ext=(a.blocks,0):=by
 have h2:=hk.len
 have hnn:a.ext.head.n.toNat=a.blocks.length:=by show a.head.n.toNat=_;omega
 unfold Xv
 rw[if_neg (by rw[hd];simp),hnn]
 congr 1
 apply qy
 intro i
 rw[List.getElem?_map]
 by_cases hi:i<a.blocks.length
 ·have hb:a.blocks[i]?=some (a.blocks[i]):=qD hi
  rw[List.getElem?_range hi,hb,qF]
  congr 1
  have:=h i (a.blocks[i]) (by rw[qm,if_pos hi]) hb (d.sector (13+i)) (Dsk.poss_sector (by omega))
  show(d.sector (13+i)).take 224=_
  rw[this,take_filled (hk.size _ (List.getElem_mem hi))]
 ·rw[List.getElem?_eq_none (by simp;omega),List.getElem?_eq_none (by omega)]
  rfl
theorem free_d1:QZ (Ze key a ep st G).kept 0=some 0:=rfl
theorem sess_commit{e:Nat}{d:Dsk}{Gp:List Bool}(hk:ArcOk key a)(hl:a.blocks.length≤6)(hG:G=qc a.blocks.length true)(h:Sess a e d Gp G)(hd:d.dead=false):
 (Dep.commit d (Ze key a ep st G) a.head.id).2.2=0∧(Dep.commit d (Ze key a ep st G) a.head.id).2.1=Dp2 key a ep st∧Hist a (Dep.commit d (Ze key a ep st G) a.head.id).1 e (fun _=>True)∧(∀s,(Dep.commit d (Ze key a ep st G) a.head.id).1.poss 5 s→s=Jh (JD a.ext))∧
  Sure a (Dep.commit d (Ze key a ep st G) a.head.id).1 (qc a.blocks.length true)∧(Dep.commit d (Ze key a ep st G) a.head.id).1.dead=false∧(d.live→(Dep.commit d (Ze key a ep st G) a.head.id).1.live)
 ∨¬d.live∧(Dep.commit d (Ze key a ep st G) a.head.id).2.2=7∧Hist a (Dep.commit d (Ze key a ep st G) a.head.id).1 e (fun _=>True):=by
 have hn40:=h.hist.n
 have hm:=ext_may hk hl
 have hsure:=h.sure
 rw[hG]at hsure
 obtain⟨W,hW⟩:∃W,W=d.write ((5+0:Nat):Int) (JD a.ext):=⟨_,rfl⟩
 obtain⟨Y,hY⟩:∃Y,Y=W.1.sync:=⟨_,rfl⟩
 obtain⟨U,hU⟩:∃U,U=Y.1.write ((1+0:Nat):Int) []:=⟨_,rfl⟩
 have hrest:Dep.commit d (Ze key a ep st G) a.head.id=(if W.2≠0 then(W.1,Ze key a ep st G,W.2)else if Y.2≠0 then(Y.1,Ze key a ep st G,Y.2)else(U.1,Dp2 key a ep st,U.2)):=by
  unfold Dep.commit
  rw[if_neg (by rw[hd];decide),d1_ext,d1_rec]
  simp only
  rw[if_neg (by rw[hG];simp),blocks_sure hk hl hn40 hd hsure]
  simp only
  rw[if_neg (by show¬str (rootV a.blocks)≠a.head.root;rw[hk.root];simp),free_d1]
  simp only
  have hkeep:Dep.keep d (Ze key a ep st G) 0 a.ext=(if W.2≠0 then(W.1,Ze key a ep st G,W.2)else if Y.2≠0 then(Y.1,Ze key a ep st G,Y.2)else(Y.1,{ Ze key a ep st G with kept:=(Ze key a ep st G).kept.set 0 (some a.ext) },0)):=by rw[hY,hW];rfl
  rw[hkeep]
  by_cases w0:W.2=0
  ·by_cases y0:Y.2=0
   ·simp only[w0,y0,ne_eq,not_true_eq_false,if_false]
    rw[hU]
    rfl
   ·simp only[w0,y0,ne_eq,not_true_eq_false,not_false_eq_true,if_false,if_true]
  ·simp only[w0,ne_eq,not_false_eq_true,if_true]
 obtain⟨Z,hZ⟩:∃Z,Z=Dep.commit d (Ze key a ep st G) a.head.id:=⟨_,rfl⟩
 rw[←hZ]at hrest ⊢
 have hi:5+0<d.old.length:=by omega
 have hx:(JD a.ext).length≤256:=by rw[catText_len hm];decide
 have hist0:Hist a d e (fun _=>True):=h.hist.weaken (qh _) fun _ _=>trivial
 have hist1:Hist a W.1 e (fun _=>True):=by rw[hW];exact hist0.cat hx hsure
 have hWn:0<W.1.old.length:=by have:=hist1.n;omega
 have wp:∀i t,W.1.poss i t→d.poss i t∨(i=5+0∧t=Jh (JD a.ext)):=fun i t ht=>by rw[hW]at ht;exact Dsk.write_poss hi hx ht
 by_cases w0:W.2=0
 ·rw[if_neg (by simp[w0])]at hrest
  have wa:=Dsk.write_alive hi hx (by rw[←hW];exact w0)
  rw[←hW]at wa
  have ws:W.1.sector 5=Jh (JD a.ext):=by rw[hW];exact Uu hi hx (by rw[←hW];exact w0)
  have hist2:Hist a Y.1 e (fun _=>True):=by rw[hY];exact hist1.sync
  by_cases y0:Y.2=0
  ·rw[if_neg (by simp[y0])]at hrest
   have ya:=sync_alive hWn (by rw[←hY];exact y0)
   rw[←hY]at ya
   have y5:∀s,Y.1.poss 5 s→s=Jh (JD a.ext):=fun s hs=>by
    rw[hY]at hs
    rw[Dsk.sync_done hWn (by rw[←hY];exact y0) hs,ws]
   have hi1:1+0<Y.1.old.length:=by have:=hist2.n;omega
   have hx1:([]:List UInt8).length≤256:=by decide
   have up:∀i t,U.1.poss i t→Y.1.poss i t∨(i=1+0∧t=Jh []):=fun i t ht=>by rw[hU]at ht;exact Dsk.write_poss hi1 hx1 ht
   have hist3:Hist a U.1 e (fun _=>True):=by rw[hU];exact hist2.record hx1 (.inl rfl)
   have sureY:Sure a Y.1 (qc a.blocks.length true):=by
    rw[hY]
    refine(hsure.less (d':=W.1) fun i t hi ht=>?_).less fun i t hi ht=>.inl (Dsk.sync_poss hWn ht)
    rcases wp i t ht with q|⟨q,_⟩
    ·exact .inl q
    ·omega
   by_cases u0:U.2=0
   ·left
    have ua:=Dsk.write_alive hi1 hx1 (by rw[←hU];exact u0)
    rw[←hU]at ua
    rw[hrest]
    refine⟨u0,rfl,hist3,fun s hs=>?_,?_,ua.2,fun hlv=>?_⟩
    ·rcases up 5 s hs with q|⟨q,_⟩
     ·exact y5 s q
     ·omega
    ·refine sureY.less fun i t hi ht=>?_
     rcases up i t ht with q|⟨q,_⟩
     ·exact .inl q
     ·omega
    ·show U.1.live
     rw[hU]
     refine(Dsk.write_live hi1 hx1 ?_).2
     rw[hY]
     refine(Dsk.sync_live hWn ?_).2
     rw[hW]
     exact(Dsk.write_live hi hx hlv).2
   ·right
    have ub:=Uv hi1 hx1 ya.2 (by rw[←hU];exact u0)
    rw[←hU]at ub
    rw[hrest]
    refine⟨fun hlv=>?_,ub.1,hist3⟩
    apply u0
    rw[hU]
    refine(Dsk.write_live hi1 hx1 ?_).1
    rw[hY]
    refine(Dsk.sync_live hWn ?_).2
    rw[hW]
    exact(Dsk.write_live hi hx hlv).2
  ·right
   rw[if_pos y0]at hrest
   have yb:=sync_bad hWn wa.2 (by rw[←hY];exact y0)
   rw[←hY]at yb
   rw[hrest]
   refine⟨fun hlv=>?_,yb.1,hist2⟩
   apply y0
   rw[hY]
   refine(Dsk.sync_live hWn ?_).1
   rw[hW]
   exact(Dsk.write_live hi hx hlv).2
 ·right
  rw[if_pos w0]at hrest
  have wb:=Uv hi hx hd (by rw[←hW];exact w0)
  rw[←hW]at wb
  rw[hrest]
  refine⟨fun hlv=>?_,wb.1,hist1⟩
  apply w0
  rw[hW]
  exact(Dsk.write_live hi hx hlv).1
end
section
variable {key : List UInt8} {a : Arc}
theorem epoch_len(k:Int):(Jm k).length≤256:=by unfold Jm;rw[List.length_append,Sha.fixed_length];decide
theorem next_live{d:Dsk}(hok:d.Ok)(hlv:d.live){k:Nat}(h1:1≤k)(h2:k<4294967295)(hs:d.sector 0=Jh (Jm k)):
 ∃d',d.nextE 0=(d',(k:Int)+1,0)∧d'.live∧d'.Ok∧d'.old.length=d.old.length∧Clean d'∧(∀i,d'.sector i=if i=0 then Jh (Jm ((k:Int)+1))else if i<d.old.length then d.sector i else d'.sector i)∧∀i s,d'.poss i s→d.poss i s∨(i=0∧s=Jh (Jm ((k:Int)+1))):=by
 have hpos:=hok.pos
 have hl:d.lastE 0=((k:Int),0):=by
  unfold Dsk.lastE Dsk.may
  rw[if_pos (by rw[if_neg (by rw[hlv.1];decide),if_neg (by omega)])]
  show lastV (d.sector 0)=_
  rw[hs,lastV_text k h1 (by omega)]
 have hx:=epoch_len ((k:Int)+1)
 obtain⟨W,hW⟩:∃W,W=d.write ((0:Nat):Int) (Jm ((k:Int)+1)):=⟨_,rfl⟩
 obtain⟨Y,hY⟩:∃Y,Y=W.1.sync:=⟨_,rfl⟩
 have w:=Dsk.write_live hpos hx hlv
 rw[←hW]at w
 have wn:W.1.old.length=d.old.length:=by rw[hW,Dsk.write_old hpos hx]
 have hWn:0<W.1.old.length:=by omega
 have y:=Dsk.sync_live hWn w.2
 rw[←hY]at y
 refine⟨Y.1,?_,y.2,?_,?_,?_,fun i=>?_,fun i s h=>?_⟩
 ·unfold Dsk.nextE
  rw[hl,if_neg (by simp),if_neg (by simp only;omega)]
  simp only
  rw[show d.write 0 (Jm ((k:Int)+1))=W from hW.symm,←hY,if_neg (by simp[w.1]),if_neg (by simp[y.1])]
 ·rw[hY];exact Dsk.sync_ok (by rw[hW];exact Dsk.write_ok hok hpos hx)
 ·rw[hY,Dsk.sync_len hWn,wn]
 ·rw[hY];exact sync_clean hWn (by rw[←hY];exact y.1)
 ·by_cases e:i=0
  ·rw[if_pos e,e,hY,Dsk.sync_sector hWn hWn,hW]
   exact Uu hpos hx (by rw[←hW];exact w.1)
  ·rw[if_neg e]
   by_cases hi:i<d.old.length
   ·rw[if_pos hi,hY,Dsk.sync_sector hWn (by omega),hW,Dsk.write_sector hpos hx (by rw[←hW];exact w.1),if_neg e]
   ·rw[if_neg hi]
 ·rw[hY]at h
  have:=Dsk.sync_poss hWn h
  rw[hW]at this
  exact Dsk.write_poss hpos hx this
theorem Hist.epoch{e k:Nat}{d d':Dsk}{P:List Bool→Prop}(h:Hist a d e P)(hok:d'.Ok)(hn:d'.old.length=d.old.length)(hke:k≤e)(hp:∀i s,d'.poss i s→d.poss i s∨(i=0∧s=Jh (Jm ((k:Int)+1)))):Hist a d' (e+1) P:=by
 have old:∀i s,i≠0→d'.poss i s→d.poss i s:=fun i s hi hs=>(hp i s hs).resolve_right fun q=>hi q.1
 have hs:∀G,Sure a d G→Sure a d' G:=fun G hG=>hG.less fun i t hi ht=>.inl (old i t (by omega) ht)
 refine⟨hok,(by rw[hn];exact h.n),fun s q=>?_,fun i hi s q=>h.free i hi s (old i s (by omega) q),fun s q=>(h.s1 s (old 1 s (by decide) q)).imp id fun⟨G,a1,a2,a3,a4⟩=>⟨G,a1,a2,a3,hs G a4⟩,fun s q=>(h.s5 s (old 5 s (by decide) q)).imp id fun⟨a1,a2⟩=>⟨a1,hs _ a2⟩⟩
 rcases hp 0 s q with q|⟨_,rfl⟩
 ·obtain⟨j,h1,h2,h3⟩:=h.s0 s q
  exact⟨j,h1,by omega,h3⟩
 ·exact⟨k+1,by omega,by omega,rfl⟩
theorem fits_self(hk:ArcOk key a)(hl:a.blocks.length≤6){N:Nat}(hN:20≤N):XX key N [] a.ext=true:=by
 have:=hk.len
 unfold XX
 simp only[Bool.and_eq_true,decide_eq_true_eq,List.any_nil,Bool.not_false,and_true]
 exact⟨⟨hk.ver,by show(13:Int)≤13;decide⟩,by show(13:Int)+a.head.n≤(N:Int);omega⟩
theorem fits_twice(x:Ext)(key:List UInt8)(n:Nat):XX key n [x] x=false:=by
 unfold XX
 simp[VP]
theorem kept_cat(hk:ArcOk key a)(hl:a.blocks.length≤6){d:Dsk}(hn:20≤d.old.length)(h5:d.sector 5=Jh (JD a.ext))(h:∀i,6≤i→i≤12→JO (d.sector i)=[]):∀k,1≤k→k≤8→Jo d key k=some a.ext::qc 7 none
 |0,h1,_=>by omega
 |1,_,_=>by
  show(Jo d key 0).set 0 (XD d key (Jo d key 0) 0)=_
  have:XD d key (Jo d key 0) 0=some a.ext:=by
   unfold XD
   rw[show 5+0=5 from rfl,h5,catTake_text (ext_may hk hl)]
   rw[if_pos ⟨rfl,by show XX key d.old.length (Qq (qc 8 none) []) a.ext=true;exact fits_self hk hl hn⟩]
  rw[this]
  rfl
 |k+2,_,h8=>by
  show(Jo d key (k+1)).set (k+1) (XD d key (Jo d key (k+1)) (k+1))=_
  rw[kept_cat hk hl hn h5 h (k+1) (by omega) (by omega)]
  have:XD d key (some a.ext::qc 7 none) (k+1)=none:=by
   unfold XD
   rw[catTake_blank (h (5+(k+1)) (by omega) (by omega)),if_neg (by simp)]
  rw[this]
  exact set_same (by rw[List.getElem?_cons_succ,qm,if_pos (by omega)])
theorem opn_rec(hk:ArcOk key a)(hl:a.blocks.length≤6){d:Dsk}{G:List Bool}(hG:(G.length:Int)=a.head.n)(hn:20≤d.old.length)(h1:d.sector 1=Jh (Xy a G))(h:∀i,2≤i→i≤4→JO (d.sector i)=[]):∀k,1≤k→k≤4→Jl key (qc 8 none) d k=(d,some ⟨a.ext,G⟩::qc 3 none,0)
 |0,h1,_=>by omega
 |1,_,_=>by
  show X8 key (qc 8 none) d (qc 4 none) 0=_
  unfold X8
  rw[show 1+0=1 from rfl,h1]
  unfold Xy
  rw[jouTake_text (r:=⟨a.ext,G⟩) (ext_may hk hl) hG]
  rw[if_pos ⟨rfl,by show XX key d.old.length (Qq (qc 8 none) (qc 4 none)) a.ext=true;exact fits_self hk hl hn⟩]
  rfl
 |k+2,_,h4=>by
  show(if(Jl key (qc 8 none) d (k+1)).2.2≠0 then Jl key (qc 8 none) d (k+1)else X8 key (qc 8 none) (Jl key (qc 8 none) d (k+1)).1 (Jl key (qc 8 none) d (k+1)).2.1 (k+1))=_
  rw[opn_rec hk hl hG hn h1 h (k+1) (by omega) (by omega),if_neg (by simp)]
  unfold X8
  rw[ZV (h (1+(k+1)) (by omega) (by omega)),if_neg (by simp),if_neg (by simp)]
theorem opn_kept(hk:ArcOk key a)(hl:a.blocks.length≤6){d:Dsk}(hok:d.Ok)(hlv:d.live)(hn:20≤d.old.length)(h1:JO (d.sector 1)=[]∨∃G,(G.length:Int)=a.head.n∧d.sector 1=Jh (Xy a G))(h:∀i,2≤i→i≤4→JO (d.sector i)=[]):
 ∃d',(∀k,1≤k→k≤4→Jl key (some a.ext::qc 7 none) d k=(d',qc 4 none,0))∧d'.live∧(d'=d∨d'=(d.write ((1:Nat):Int) []).1):=by
 have hi:1<d.old.length:=by omega
 have hx:([]:List UInt8).length≤256:=by decide
 have first:∃d',X8 key (some a.ext::qc 7 none) d (qc 4 none) 0=(d',qc 4 none,0)∧d'.live∧(d'=d∨d'=(d.write ((1:Nat):Int) []).1):=by
  rcases h1 with h1|⟨G,hG,h1⟩
  ·refine⟨d,?_,hlv,.inl rfl⟩
   unfold X8
   rw[ZV (s:=d.sector (1+0)) h1,if_neg (by simp),if_neg (by simp)]
  ·have w:=Dsk.write_live hi hx hlv
   refine⟨_,?_,w.2,.inr rfl⟩
   unfold X8
   rw[show 1+0=1 from rfl,h1]
   unfold Xy
   rw[jouTake_text (r:=⟨a.ext,G⟩) (ext_may hk hl) hG,if_neg,if_pos (by simp),w.1]
   rintro⟨_,q⟩
   have:Qq (some a.ext::qc 7 none) (qc 4 none)=[a.ext]:=rfl
   rw[this]at q
   have:=fits_twice a.ext key d.old.length
   rw[q]at this
   cases this
 obtain⟨d',h2,h3,h4⟩:=first
 refine⟨d',fun k=>?_,h3,h4⟩
 have keep:∀i,2≤i→i≤4→JO (d'.sector i)=[]:=fun i q1 q2=>by
  rcases h4 with rfl|rfl
  ·exact h i q1 q2
  ·rw[Dsk.write_sector hi hx (Dsk.write_live hi hx hlv).1,if_neg (by omega)];exact h i q1 q2
 induction k with
 |zero=>intro q;omega
 |succ k ih=>
  intro _ q4
  cases k with
  |zero=>
   exact h2
  |succ k=>
   show(if(Jl key (some a.ext::qc 7 none) d (k+1)).2.2≠0 then Jl key (some a.ext::qc 7 none) d (k+1)else X8 key (some a.ext::qc 7 none) (Jl key (some a.ext::qc 7 none) d (k+1)).1 (Jl key (some a.ext::qc 7 none) d (k+1)).2.1 (k+1))=_
   rw[ih (by omega) (by omega),if_neg (by simp)]
   unfold X8
   rw[ZV (keep (1+(k+1)) (by omega) (by omega)),if_neg (by simp),if_neg (by simp)]
structure Reopened(key:List UInt8)(a:Arc)(e:Nat)(P:List Bool→Prop)(d d':Dsk)(D:Dep):Prop where
 hist:Hist a d' (e+1) P
 clean:Clean d'
 live:d'.live
 how:(JO (d.sector 5)=[]∧JO (d.sector 1)=[]∧(∃ep,D=Dp0 key ep 0)∧JO (d'.sector 1)=[]∧JO (d'.sector 5)=[])∨
  (∃G,JO (d.sector 5)=[]∧d.sector 1=Jh (Xy a G)∧P G∧(∃ep,D=Ze key a ep 0 G)∧Sess a (e+1) d' G G)∨
  (d.sector 5=Jh (JD a.ext)∧(∃ep,D=Dp2 key a ep 0)∧Sure a d' (qc a.blocks.length true))
theorem reopen{e:Nat}{d:Dsk}{P:List Bool→Prop}(hk:ArcOk key a)(hl:a.blocks.length≤6)(h:Hist a d e P)(hlv:d.live)(hc:Clean d)(he:e<4294967295):
 ∃d' D,openD d key=(d',some D,0)∧Reopened key a e P d d' D:=by
 have hn:=h.n
 have ps:∀i,i<20→d.poss i (d.sector i):=fun i hi=>Dsk.poss_sector (by omega)
 obtain⟨k,k1,k2,k3⟩:=h.s0 _ (ps 0 (by decide))
 have f24:∀i,2≤i→i≤4→JO (d.sector i)=[]:=fun i h1 h2=>h.free i (by omega) _ (ps i (by omega))
 have f612:∀i,6≤i→i≤12→JO (d.sector i)=[]:=fun i h1 h2=>h.free i (by omega) _ (ps i (by omega))
 have open_eq:∀(K:List (Option Ext))(O:List (Option Rec))(d1 d2:Dsk)(n:Int),Jo d key 8=K→Jl key K d 4=(d1,O,0)→d1.nextE 0=(d2,n,0)→openD d key=(d2,some ⟨key,n,O,K,0⟩,0):=fun K O d1 d2 n h1 h2 h3=>by
  unfold openD
  rw[if_neg (by omega),if_neg (by rw[hlv.1];decide),h1,h2]
  simp only[ne_eq,not_true_eq_false,if_false,h3]
 rcases h.s5 _ (ps 5 (by decide))with s5|⟨s5,sure5⟩
 ·have hk8:Jo d key 8=qc 8 none:=kept_blank (fun i hi=>by
   by_cases e:i=0
   ·subst e;exact s5
   ·exact f612 (5+i) (by omega) (by omega)) 8 (qh _)
  obtain⟨d2,e2,lv2,ok2,n2,c2,sec2,p2⟩:=next_live h.ok hlv k1 (by omega) k3
  have hist2:Hist a d2 (e+1) P:=h.epoch ok2 n2 k2 p2
  have sec:∀i,1≤i→i<20→d2.sector i=d.sector i:=fun i q1 q2=>by rw[sec2 i,if_neg (by omega),if_pos (by omega)]
  rcases h.s1 _ (ps 1 (by decide))with s1|⟨G,g1,g2,g3,g4⟩
  ·have ho4:Jl key (qc 8 none) d 4=(d,qc 4 none,0):=opn_blank (fun i hi=>by
    by_cases e:i=0
    ·subst e;exact s1
    ·exact f24 (1+i) (by omega) (by omega)) 4 (qh _)
   exact⟨d2,_,open_eq _ _ _ _ _ hk8 ho4 e2,hist2,c2,lv2,.inl ⟨s5,s1,⟨_,rfl⟩,by rw[sec 1 (by decide) (by decide)];exact s1,by rw[sec 5 (by decide) (by decide)];exact s5⟩⟩
  ·have ho4:=opn_rec hk hl g1 hn g3 f24 4 (by decide) (qh _)
   have sure2:Sure a d2 G:=g4.less fun i t hi ht=>.inl ((p2 i t ht).resolve_right fun q=>by omega)
   refine⟨d2,_,open_eq _ _ _ _ _ hk8 ho4 e2,hist2,c2,lv2,.inr (.inl ⟨G,s5,g3,g2,⟨_,rfl⟩,?_⟩)⟩
   refine⟨⟨hist2.ok,hist2.n,hist2.s0,hist2.free,fun s q=>.inr ⟨G,g1,.inl rfl,?_,sure2⟩,fun s q=>.inl ?_⟩,g1,?_,sure2,fun s q=>.inl ?_,fun s q=>?_⟩
   ·rw[c2 1 s q,sec 1 (by decide) (by decide),g3]
   ·rw[c2 5 s q,sec 5 (by decide) (by decide)];exact s5
   ·rw[sec 1 (by decide) (by decide),g3];rfl
   ·rw[c2 1 s q,sec 1 (by decide) (by decide),g3];rfl
   ·rw[c2 5 s q,sec 5 (by decide) (by decide)];exact s5
 ·have hk8:=kept_cat hk hl hn s5 f612 8 (by decide) (qh _)
  obtain⟨d1,ho,lv1,hd1⟩:=opn_kept hk hl h.ok hlv hn ((h.s1 _ (ps 1 (by decide))).imp id fun⟨G,g1,_,g3,_⟩=>⟨G,g1,g3⟩) f24
  have hi:1<d.old.length:=by omega
  have hx:([]:List UInt8).length≤256:=by decide
  have hist1:Hist a d1 e P:=by
   rcases hd1 with rfl|rfl
   ·exact h
   ·exact h.record hx (.inl rfl)
  have sure1:Sure a d1 (qc a.blocks.length true):=by
   rcases hd1 with rfl|rfl
   ·exact sure5
   ·exact sure5.less fun i t q ht=>.inl ((Dsk.write_poss hi hx ht).resolve_right fun q=>by omega)
  have s0:d1.sector 0=Jh (Jm (k:Int)):=by
   rcases hd1 with rfl|rfl
   ·exact k3
   ·rw[Dsk.write_sector hi hx (Dsk.write_live hi hx hlv).1,if_neg (by decide)];exact k3
  obtain⟨d2,e2,lv2,ok2,n2,c2,sec2,p2⟩:=next_live hist1.ok lv1 k1 (by omega) s0
  have hist2:Hist a d2 (e+1) P:=hist1.epoch ok2 n2 k2 p2
  exact⟨d2,_,open_eq _ _ _ _ _ hk8 (ho 4 (by decide) (qh _)) e2,hist2,c2,lv2,.inr (.inr ⟨s5,⟨_,rfl⟩,sure1.less fun i t hi ht=>.inl ((p2 i t ht).resolve_right fun q=>by omega)⟩)⟩
theorem hist_new(N:Nat)(hN:20≤N)(hN2:N≤1024)(a:Arc)(P:List Bool→Prop):Hist a (JV N) 1 P∧Clean (JV N)∧(JV N).live∧JO ((JV N).sector 1)=[]∧JO ((JV N).sector 5)=[]:=by
 have hp:∀i s,(JV N).poss i s→(i=0∧s=Jh (Jm 1))∨(1≤i∧i<N∧s=zeroS):=fun i s h=>by
  rcases h with h|h
  ·cases i with
   |zero=>left;exact⟨rfl,(Option.some.inj h).symm⟩
   |succ i=>
    have h:(qc (N-1) zeroS)[i]?=some s:=h
    rw[qm]at h
    split at h
    ·right;exact⟨by omega,by omega,(Option.some.inj h).symm⟩
    ·cases h
  ·simp[JV,Jr]at h
 have hsec:∀i,1≤i→i<N→(JV N).sector i=zeroS:=fun i h1 h2=>by
  obtain⟨k,rfl⟩:∃k,i=k+1:=⟨i-1,by omega⟩
  unfold Dsk.sector JV
  simp only[Jr,List.find?_nil,Option.map_none,Option.getD_none,List.getElem?_cons_succ,qm]
  rw[if_pos (by omega)]
  rfl
 have hok:(JV N).Ok:=by
  have hf:(Jh (Jm 1)).length=256:=by decide+kernel
  refine⟨by simp[JV];omega,by simp[JV],fun s hs=>?_,by simp[JV],by simp[JV],by simp[JV],by simp[JV],⟨by show(-1:Int)≤ -1;decide,by show(-1:Int)≤_;decide⟩,trivial⟩
  unfold JV at hs
  simp only[qt,List.mem_replicate]at hs
  rcases hs with rfl|⟨_,rfl⟩
  ·exact hf
  ·exact qz
 refine⟨⟨hok,by simp[JV];omega,fun s h=>?_,fun i hi s h=>?_,fun s h=>.inl ?_,fun s h=>.inl ?_⟩,fun i s h=>?_,⟨rfl,rfl⟩,?_,?_⟩
 ·rcases hp 0 s h with⟨_,rfl⟩|⟨q,_⟩
  ·exact⟨1,by decide,by decide,rfl⟩
  ·omega
 ·rcases hp i s h with⟨q,_⟩|⟨_,_,rfl⟩
  ·omega
  ·exact Z4
 ·rcases hp 1 s h with⟨q,_⟩|⟨_,_,rfl⟩
  ·omega
  ·exact Z4
 ·rcases hp 5 s h with⟨q,_⟩|⟨_,_,rfl⟩
  ·omega
  ·exact Z4
 ·rcases hp i s h with⟨rfl,rfl⟩|⟨q1,q2,rfl⟩
  ·rfl
  ·rw[hsec i q1 q2]
 ·rw[hsec 1 (by decide) (by omega)];exact Z4
 ·rw[hsec 5 (by decide) (by omega)];exact Z4
end
end Go.Proofs.YteccmcpaheepcaaGreatDoor
namespace Go.Proofs.YteccmcpaheepcaaGreatDoor
open Go.RowKit Abs Stab
def Vo(h:Ext):Int:=h.base
def SmallE(L:List Ext):Prop:=∀h∈L, -1099511627776≤h.base∧h.base≤1099511627776
theorem exl_len(h:Ext):h.cells.length=8:=rfl
theorem exl_one(h:Ext):Jn h.cells=true:=rfl
def ZT(M:Mem)(g:Nat)(L:List Ext):Prop:=M.get g=some (.cells false 8 (L.flatMap Ext.cells))
theorem exl_row{M:Mem}{g:Nat}{L:List Ext}(h:ZT M g L){k:Nat}{x:Ext}(hx:L[k]?=some x):Jv 8 (k*8) (M.get g)=some (.agg x.cells.toArray):=by
 rw[show M.get g=_ from h]
 exact rowIn_at (n:=8) (fun a _=>exl_len a) hx false 8
theorem exl_put{M:Mem}{g:Nat}{L:List Ext}(h:ZT M g L){k:Nat}{x:Ext}(hx:L[k]?=some x)(y:Ext):∃M',Ji 8 M g (k*8) y.cells (M.get g)=some M'∧ZT M' g (L.set k y)∧Only [g] M M'∧M'.size=M.size:=by
 refine⟨_,?_,Mem.get_set_same h _,Only.set (by simp) _,Mem.size_set _ _ _⟩
 rw[show M.get g=_ from h]
 exact putIn_at (fun a _=>exl_len a) hx y (exl_len y) (exl_one y) M g 8
def cmpE:Value:=.func (.func 138) #[] #[]
theorem cmpe_spec(a b:Ext)(ha: -1099511627776≤a.base∧a.base≤1099511627776)(hb: -1099511627776≤b.base∧b.base≤1099511627776)(m:Mem):
 Abs.Spec qd 138 [.agg a.cells.toArray,.agg b.cells.toArray] m fun u M=>u=.int .i64 (a.base-b.base)∧M=m:=by
 refine Abs.Spec.of_empty (by intro x hx;simp at hx;rcases hx with rfl|rfl<;>rfl) rfl ?_ m
 have w:IntKind.i64.wrap (a.base-b.base)=a.base-b.base:=Xl (by omega) (by omega)
 have b1:QS qd 102 (.agg a.cells.toArray)=some (.cells false (J6 qd 102) a.cells):=Kn _ rfl
 have b2:QS qd 102 (.agg b.cells.toArray)=some (.cells false (J6 qd 102) b.cells):=Kn _ rfl
 generalize J6 qd 102=s1 at b1 b2
 have c1:∀h:Ext,cellIn 7 (some (.cells false s1 h.cells))=some (.int .i64 h.base):=fun h=>rfl
 have g1:(((⟨[]⟩:Mem).push (.cells false s1 a.cells)).push (.cells false s1 b.cells)).get (⟨[]⟩:Mem).size=some (.cells false s1 a.cells):=rfl
 have g2:(((⟨[]⟩:Mem).push (.cells false s1 a.cells)).push (.cells false s1 b.cells)).get ((⟨[]⟩:Mem).push (.cells false s1 a.cells)).size=some (.cells false s1 b.cells):=rfl
 refine WM Tryz.func138 Tryz.results138 Tryz.ntmps138 fun _=>?_
 refine J0 (R2 @b1 @b2 ?_)
 refine J0 (R4 @g1 @g2 @c1 @w ?_)
 refine T0 ?_
 first|exact⟨_,Thin.refl _,rfl⟩|exact⟨_,Thin.refl _⟩|exact⟨_,Thin.refl _,rfl,rfl⟩
theorem swap_adjE(P Q:List Ext)(x y:Ext):((P++y::x::Q).set (P.length+1) y).set P.length x=P++x::y::Q:=by
 rw[List.set_append_right _ _ (by omega),show P.length+1-P.length=1 by omega,List.set_cons_succ,List.set_cons_zero,set_mid]
theorem at_midE(P Q:List Ext)(x:Ext):(P++x::Q)[P.length]?=some x:=by simp
theorem at_midE1(P Q:List Ext)(x y:Ext):(P++y::x::Q)[P.length+1]?=some x:=by
 rw[List.getElem?_append_right (by omega)]
 simp
theorem inse_spec(g n c:Nat)(M:Mem)(A X B:List Ext)(hg:ZT M g (A++X++B))(hn:(A++X++B).length=n)(hn2:n≤1000000)(hs:SmallE (A++X++B)):
 Abs.Spec qd 267 [.slice (some ⟨g,0,none⟩) n c,.int .i64 (A.length:Nat),.int .i64 ((A.length+X.length:Nat):Int),cmpE] M
  fun u M'=>u=.tuple #[]∧(∃R,Stable Vo X R∧ZT M' g (A++R++B))∧Only [g] M M'∧M'.size=M.size:=by
 unfold cmpE
 refine UX Tryz.func267 Tryz.results267 Tryz.ntmps267 fun hc hx k=>?_
 have hlen:A.length+X.length+B.length=n:=by rw[←hn];simp only[qe]
 have w0:IntKind.i64.wrap (((A.length:Nat):Int)+1)=((A.length+1:Nat):Int):=by rw[Xl (by omega) (by omega)];omega
 refine J0 (R1 @w0 ?_)
 refine J8 (Jt (fun j f M'=>∃(i:Nat)(R Q:List Ext),j=n+1-i∧f=[(0,.slice (some ⟨g,0,none⟩) n c),(1,.int .i64 (A.length:Nat)),(2,.int .i64 ((A.length+X.length:Nat):Int)),(3,.func (.func 138) #[] #[]),(8,.int .i64 (i:Nat))]∧
  i≤n+1∧((i=A.length+R.length∧R≠ [])∨(X=[]∧i=A.length+1))∧(∃X1,X=X1++Q∧Stable Vo X1 R)∧ZT M' g (A++R++Q++B)∧Only [g] M M'∧M'.size=M.size) (n+1-(A.length+1)) ?_ ?_)
 ·refine JK [0,1,2,3,8] ?_
  cases hX:X with
  |nil=>exact⟨M,Thin.refl _,A.length+1,[],[],rfl,by simp,by omega,.inr ⟨rfl,rfl⟩,⟨[],rfl,Stable.refl _ qo.nil⟩,by rw[hX]at hg;simpa using hg,Only.refl _ _,rfl⟩
  |cons x Q=>exact⟨M,Thin.refl _,A.length+1,[x],Q,rfl,by simp,by rw[hX]at hlen;simp only[qE]at hlen;omega,.inl ⟨rfl,by simp⟩,⟨[x],rfl,Stable.refl _ (List.pairwise_singleton _ _)⟩,by rw[hX]at hg;simpa using hg,Only.refl _ _,rfl⟩
 ·rintro j f M' ⟨i,R,Q,rfl,rfl,hi,hiR,⟨X1,hX1,hst⟩,hg',ho,hsz⟩
  refine J0 (J0 (R0 ?_))
  refine CC (decide ((i:Int)<((A.length+X.length:Nat):Int))) (fun h=>J3 ?_) (fun h=>Jp ?_)
  ·have h:=of_decide_eq_true h
   obtain⟨hiA,hRne⟩:i=A.length+R.length∧R≠ []:=by
    rcases hiR with h1|⟨h1,h2⟩
    ·exact h1
    ·rw[h1,qx]at h;omega
   have hl1:=hst.len
   obtain⟨x,Q',rfl⟩:∃x Q',Q=x::Q':=by
    cases Q with
    |nil=>rw[hX1,qp]at h;omega
    |cons x Q'=>exact⟨x,Q',rfl⟩
   have hXl:X.length=X1.length+(Q'.length+1):=by rw[hX1];simp
   have hsm:∀y,y∈R∨y=x→ -1099511627776≤y.base∧y.base≤1099511627776:=fun y hy=>hs y (by
    rw[hX1]
    rcases hy with hy|rfl
    ·rw[hst.mem]at hy;simp[hy]
    ·simp)
   simp only[zZ,reduceIte,yQ,yW,yX,yZ,yJ,yK,yV]
   refine QR (fun f M2=>∃R2,f=[(0,.slice (some ⟨g,0,none⟩) n c),(1,.int .i64 (A.length:Nat)),(2,.int .i64 ((A.length+X.length:Nat):Int)),(3,.func (.func 138) #[] #[]),(8,.int .i64 (i:Nat))]∧Stable Vo (X1++[x]) R2∧ZT M2 g (A++R2++Q'++B)∧Only [g] M M2∧M2.size=M.size) ?_ ?_
   ·refine J8 (J0 (R0 ?_))
    refine J8 (Jt (fun jj f M2=>∃(j:Nat)(R1 R2:List Ext),jj=j∧f=[(0,.slice (some ⟨g,0,none⟩) n c),(1,.int .i64 (A.length:Nat)),(2,.int .i64 ((A.length+X.length:Nat):Int)),(3,.func (.func 138) #[] #[]),(8,.int .i64 (i:Nat)),(9,.int .i64 (j:Nat))]∧
     R=R1++R2∧j=A.length+R1.length∧(∀y∈R2,x.base<y.base)∧ZT M2 g (A++R1++x::R2++Q'++B)∧Only [g] M M2∧M2.size=M.size) i ?_ ?_)
    ·refine JK [0,1,2,3,8,9] ?_
     exact⟨M',Thin.refl _,i,R,[],rfl,rfl,by simp,hiA,by simp,by simpa using hg',ho,hsz⟩
    ·rintro j f M2 ⟨_,R1,R2,rfl,rfl,hRR,hj,hgt,hg2,ho2,hsz2⟩
     have done:(∀y∈R1,y.base≤x.base)→∀(f:AL),AL.get f 0=some (.slice (some ⟨g,0,none⟩) n c)→AL.get f 1=some (.int .i64 (A.length:Nat))→AL.get f 2=some (.int .i64 ((A.length+X.length:Nat):Int))→AL.get f 3=some (.func (.func 138) #[] #[])→AL.get f 8=some (.int .i64 (i:Nat))→
      @JoinM f M2 ⟨fun f M2=>∃R2,f=[(0,.slice (some ⟨g,0,none⟩) n c),(1,.int .i64 (A.length:Nat)),(2,.int .i64 ((A.length+X.length:Nat):Int)),(3,.func (.func 138) #[] #[]),(8,.int .i64 (i:Nat))]∧Stable Vo (X1++[x]) R2∧ZT M2 g (A++R2++Q'++B)∧Only [g] M M2∧M2.size=M.size⟩:=fun hle f h0 h1 h2 h3 h8=>by
      refine⟨[0,1,2,3,8],?_⟩
      simp only[keepF,h0,h1,h2,h3,h8,zZ,reduceIte,yQ,yW,yX,yZ,yJ,yK,yV]
      have hst2:Stable Vo (R++[x]) (R1++x::R2):=by
       rw[hRR]
       exact Kg Vo (by rw[←hRR];exact hst.rising) (fun y hy=>hle y hy) (fun y hy=>hgt y hy)
      have hst3:Stable Vo (X1++[x]) (R1++x::R2):=hst2.of_keys Vo (fun k=>by rw[Xq,Xq,hst.keys]) (by simp[hst.len])
      exact⟨M2,Thin.refl _,R1++x::R2,hst3,by simpa using hg2,ho2,hsz2⟩
     refine J0 (J0 (QN hmix 14 (by kernel_rfl) (by kernel_rfl) ?_))
     rcases List.eq_nil_or_concat R1 with rfl|⟨R1',y,rfl⟩
     ·have q1:decide ((A.length:Int)<(j:Int))=false:=decide_eq_false (by rw[hj];simp)
      refine S1 @q1 ?_
      refine CF (Jp ?_)
      simp only[zZ,reduceIte,yQ,yW,yX,yZ,yJ,yK,yV]
      exact done (by simp) _ rfl rfl rfl rfl rfl
     ·obtain⟨P,hP⟩:∃P,P=A++R1':=⟨_,rfl⟩
      obtain⟨T,hT⟩:∃T,T=R2++Q'++B:=⟨_,rfl⟩
      have hL:A++R1'.concat y++x::R2++Q'++B=P++y::x::T:=by rw[hP,hT];simp
      rw[hL]at hg2
      have hjP:j=P.length+1:=by rw[hj,hP];simp;omega
      have hn3:P.length+1<n:=by
       have e:=congrArg List.length hRR
       simp only[qe,List.length_concat]at e
       rw[hP,qe]
       omega
      have q1:decide ((A.length:Int)<(j:Int))=true:=decide_eq_true (by rw[hjP,hP,qe];omega)
      have r1:=exl_row hg2 (at_midE1 P T x y)
      have r0:=exl_row hg2 (at_midE P (x::T) y)
      have w1:IntKind.i64.wrap ((j:Int)-1)=((P.length:Nat):Int):=by rw[Xl (by omega) (by omega)];omega
      have z1:(0:Int)≤(j:Int):=by omega
      have z2:(j:Int)<(n:Int):=by omega
      have z3:(0:Int)≤((P.length:Nat):Int):=by omega
      have z4:((P.length:Nat):Int)<(n:Int):=by omega
      rw[←hjP]at r1
      refine S9 @q1 @w1 @z1 @z2 @z3 @z4 @and_self @r0 @r1 ?_
      have sx:=hsm x (.inr rfl)
      have sy:=hsm y (.inl (by rw[hRR];simp))
      refine⟨by kernel_rfl,_,cmpe_spec x y sx sy M2,?_⟩
      rintro _ M9 ⟨rfl,e9⟩;replace e9:=e9.symm;subst e9
      refine⟨by decide,?_⟩
      refine S0 ?_
      refine CC (decide (x.base-y.base<0)) (fun h=>J3 ?_) (fun h=>Jp ?_)
      ·have h:=of_decide_eq_true h
       obtain⟨M3,hp3,hg3,ho3,hs3⟩:=exl_put hg2 (show(P++y::x::T)[j]?=some x by rw[hjP];exact at_midE1 P T x y) y
       have hx3:((P++y::x::T).set j y)[P.length]?=some y:=by
        rw[qv (by omega)];exact at_midE P (x::T) y
       obtain⟨M4,hp4,hg4,ho4,hs4⟩:=exl_put hg3 hx3 x
       rw[hjP,swap_adjE]at hg4
       simp only[zZ,reduceIte,yQ,yW,yX,yZ,yJ,yK,yV]
       refine J0 (J8 (CW_draw4 hmix 15 [2,3,4] (by kernel_rfl) ?_))
       simp only[sQB,Zq,Option.bind_some,zZ,reduceIte,yQ,yW,yX,yZ,yJ,yK,yV,zDk,Jc,Jb,Ja,J9,XQ,w1,z1,z2,z3,z4,and_self,r0,r1,hp3,hp4]
       refine⟨⟨⟨_,rfl⟩,⟨_,rfl⟩,⟨_,rfl⟩⟩,?_⟩
       refine R1 @w1 ?_
       refine JK [0,1,2,3,8,9] ?_
       refine⟨M4,Thin.refl _,P.length,⟨P.length,R1',y::R2,rfl,rfl,by rw[hRR];simp,by rw[hP,qe],?_,?_,ho2.trans (ho3.trans ho4),by omega⟩,by omega⟩
       ·intro z hz
        rcases qt.1 hz with rfl|hz
        ·omega
        ·exact hgt z hz
       ·have e:A++R1'++x::(y::R2)++Q'++B=P++x::y::T:=by rw[hP,hT];simp
        rw[e];exact hg4
      ·have h:=of_decide_eq_false h
       simp only[zZ,reduceIte,yQ,yW,yX,yZ,yJ,yK,yV]
       refine done (fun z hz=>?_) _ rfl rfl rfl rfl rfl
       have hr:=hst.rising
       rw[hRR]at hr
       have hr:=(Rising.parts Vo hr).1
       rw[List.concat_eq_append]at hr hz
       rcases qG.1 hz with hz|hz
       ·have:=(Rising.parts Vo hr).2.2 z hz y (by simp)
        unfold Vo at this
        omega
       ·simp only[qL]at hz
        rw[hz];omega
   ·rintro _ M2 ⟨R2,rfl,hst2,hg2,ho2,hsz2⟩
    have hl2:=hst2.len
    have w1:IntKind.i64.wrap ((i:Int)+1)=((i+1:Nat):Int):=by rw[Xl (by omega) (by omega)];omega
    refine R1 @w1 ?_
    refine JK [0,1,2,3,8] ?_
    refine⟨M2,Thin.refl _,n+1-(i+1),⟨i+1,R2,Q',rfl,rfl,by omega,.inl ⟨?_,?_⟩,⟨X1++[x],by rw[hX1];simp,hst2⟩,hg2,ho2,hsz2⟩,by omega⟩
    ·rw[hl2,hiA];simp;omega
    ·intro e;rw[e]at hl2;simp at hl2
  ·have h:=of_decide_eq_false h
   have hl1:=hst.len
   have hQ:Q=[]:=by
    rcases hiR with⟨h1,h2⟩|⟨h1,h2⟩
    ·have:Q.length=0:=by rw[hX1,qe]at h;omega
     exact qi this
    ·rw[h1]at hX1;exact(List.append_eq_nil_iff.1 hX1.symm).2
   simp only[zZ,reduceIte,yQ,yW,yX,yZ,yJ,yK,yV,zDk,Jc,Jb,Ja,J9,XQ,mEnd,sAnswer,sAnswer.sRes]
   rw[hQ,qp]at hg' hX1
   exact⟨M',Thin.refl _,⟨R,by rw[hX1];exact hst,hg'⟩,ho,hsz⟩
theorem blen_spec(x:Int)(h0:0≤x)(h1:x≤18446744073709551615)(m:Mem):
 Abs.Spec qd 146 [.int .u64 x] m fun u M=>u=.int .i64 (Lib.bitLen x.toNat)∧M=m:=
 Abs.Spec.of_flat (by simp[flat]) rfl fun w=>(Tryz.bits_Len x w h0 h1).mono fun e w' h=>⟨h.1,by rw[h.2];exact Below.refl _ _⟩
theorem pdqe_spec(g n c:Nat)(lim:Int)(M:Mem)(L:List Ext)(hg:ZT M g L)(hn:L.length=n)(hn2:n≤12)(hs:SmallE L):
 Abs.Spec qd 209 [.slice (some ⟨g,0,none⟩) n c,.int .i64 0,.int .i64 (n:Nat),.int .i64 lim,cmpE] M
  fun u M'=>u=.tuple #[]∧(∃R,Stable Vo L R∧ZT M' g R)∧Only [g] M M'∧M'.size=M.size:=by
 unfold cmpE
 refine UX Tryz.func209 Tryz.results209 Tryz.ntmps209 fun hc hx k=>?_
 have w0:IntKind.i64.wrap ((n:Int)-0)=(n:Int):=by rw[Xl (by omega) (by omega)];omega
 have q1:decide ((n:Int)≤12)=true:=decide_eq_true (by omega)
 have is:=inse_spec g n c M [] L [] (by simpa using hg) (by simpa using hn) (by omega) (by simpa using hs)
 simp only[qx,qH,hn,qB,qp]at is
 unfold cmpE at is
 refine J0 (R0 ?_)
 refine J0 (R0 ?_)
 refine J8 (Jt (fun j f M'=>j=0∧f=[(0,.slice (some ⟨g,0,none⟩) n c),(1,.int .i64 0),(2,.int .i64 (n:Nat)),(4,.func (.func 138) #[] #[])]∧M'=M) 0 ?_ ?_)
 ·refine JK [0,1,2,4] ?_
  exact⟨M,Thin.refl _,rfl⟩
 ·rintro j f M' ⟨rfl,rfl,e9⟩
  replace e9:=e9.symm;subst e9
  refine J8 (J0 (R1 @w0 ?_))
  refine J0 (J0 (R1 @q1 ?_))
  refine CT (J0 (R0 ?_))
  refine⟨by kernel_rfl,_,is,?_⟩
  rintro _ M2 ⟨rfl,hR,ho,hsz⟩
  refine S0 ?_
  refine T0 ?_
  exact⟨_,Thin.refl _,hR,ho,hsz⟩
theorem sorte_spec(g n c:Nat)(M:Mem)(L:List Ext)(hg:ZT M g L)(hn:L.length=n)(hn2:n≤12)(hs:SmallE L):
 Abs.Spec qd 137 [.slice (some ⟨g,0,none⟩) n c,cmpE] M
  fun u M'=>u=.tuple #[]∧(∃R,Stable Vo L R∧ZT M' g R)∧Only [g] M M'∧M'.size=M.size:=by
 unfold cmpE
 refine UX Tryz.func137 Tryz.results137 Tryz.ntmps137 fun hc hx k=>?_
 have bl:=fun m=>blen_spec (n:Int) (by omega) (by omega) m
 have w0:IntKind.u64.wrap (n:Int)=(n:Int):=by unfold IntKind.wrap;simp[IntKind.bits,IntKind.signed];omega
 have pq:=fun lim=>pdqe_spec g n c lim M L hg hn hn2 hs
 unfold cmpE at pq
 refine J0 (R0 ?_)
 refine R1 @w0 ?_
 refine K0 (bl _) ?_
 refine⟨by kernel_rfl,_,pq _,?_⟩
 rintro _ M2 ⟨rfl,hR,ho,hsz⟩
 simp only[zZ,reduceIte,yQ,yW,yX,yZ,yJ,yK,yV,zDk,Jc,Jb,Ja,J9,XQ,mEnd,sAnswer,sAnswer.sRes]
 exact⟨_,Thin.refl _,hR,ho,hsz⟩
theorem new_ext0:Jx qd 128 0 []=some (.cells false 8 []):=by kernel_rfl
theorem es_eql0(cx:Bool):aBin qd .eql 128 cx (.slice none 0 0) (.slice none 0 0)=some (.bool true):=by cases cx<;>kernel_rfl
theorem es_eql(cx:Bool)(a:Addr)(n c:Nat):aBin qd .eql 128 cx (.slice (some a) n c) (.slice none 0 0)=some (.bool false):=by cases cx<;>kernel_rfl
theorem eclone_spec(K:Nat)(M:Mem)(V:Value)(L:List Ext)(h:Vw K M V L)(hl:L.length≤1000000):
 Abs.Spec qd 136 [V] M fun u M'=>Vw M.size M' u L∧Only [] M M'∧M.size≤M'.size:=by
 refine UX Tryz.func136 Tryz.results136 Tryz.ntmps136 fun hc hx k=>?_
 refine J0 (R0 ?_)
 rcases h with⟨rfl,rfl⟩|⟨h0,g,hgk,rfl,hg⟩
 ·refine J0 (J0 (R1 @es_eql0 ?_))
  refine CT (J0 (R0 ?_))
  refine T0 ?_
  exact⟨M,Thin.refl _,.inl ⟨rfl,rfl⟩,Only.refl _ _,qh _⟩
 ·refine J0 (J0 (R1 @es_eql ?_))
  refine CF (J3 ?_)
  simp only[zZ,reduceIte,yQ,yW,yX,yZ,yJ,yK,yV]
  have hgl:=Mem.get_lt hg
  have hpos:=List.length_pos_iff.2 h0
  have hby:=Ext_bytes
  have hsrc:=src_block (P:=qd) (tx:=128) (m:=M.push (.cells false 8 [])) (c:=L.length) (k:=L.length) (N:=8) (news:=L.flatMap Ext.cells) (ro:=false) (s:=8) Tryz.underlying128 (by rw[Mem.get_push_old hgl];exact hg) (by rw[flat_length (fun a=>ext_len a)])
  have ha:=gapp (P:=qd) (N:=8) (k:=L.length) (n:=0) (g:=M.size) (cs:=[]) (news:=L.flatMap Ext.cells) Tryz.underlying128 inf_Ext Ext_zero sz_Ext rfl (M.push (.cells false 8 [])) hsrc (by omega)
   (Mem.get_push_new M _) rfl (by rw[qH];have:=Nat.mul_le_mul hl hby;omega) (by omega)
  rw[Mem.size_push,qH,qB]at ha
  refine J0 (R2 @new_ext0 @ha ?_)
  refine T0 ?_
  refine⟨_,Thin.refl _,.inr ⟨h0,M.size+1,by omega,rfl,?_⟩,fun b y _ hy=>?_,by simp only[Mem.size_push,Mem.size_set];omega⟩
  ·have:=Mem.get_push_new ((M.push (.cells false 8 [])).set M.size none) (.cells false 8 (L.flatMap Ext.cells))
   rw[Mem.size_set,Mem.size_push]at this
   exact this
  ·have:=Mem.get_lt hy
   rw[Mem.get_push_old (by rw[Mem.size_set,Mem.size_push];omega),Mem.get_set_ne (by omega),Mem.get_push_old this];exact hy
theorem inse_nil(M:Mem):
 Abs.Spec qd 267 [.slice none 0 0,.int .i64 0,.int .i64 0,cmpE] M fun u M'=>u=.tuple #[]∧M'=M:=by
 unfold cmpE
 refine UX Tryz.func267 Tryz.results267 Tryz.ntmps267 fun hc hx k=>?_
 have w0:IntKind.i64.wrap ((0:Int)+1)=1:=by decide
 have q1:decide ((1:Int)<0)=false:=rfl
 refine J0 (R1 @w0 ?_)
 refine J8 (Jt (fun j f M'=>j=0∧f=[(0,.slice none 0 0),(1,.int .i64 0),(2,.int .i64 0),(3,.func (.func 138) #[] #[]),(8,.int .i64 1)]∧M'=M) 0 ?_ ?_)
 ·refine JK [0,1,2,3,8] ?_
  exact⟨M,Thin.refl _,rfl⟩
 ·rintro j f M' ⟨rfl,rfl,e9⟩
  replace e9:=e9.symm;subst e9
  refine J0 (J0 (R2 @q1 @decide_false ?_))
  refine CF (Jp ?_)
  simp only[zZ,reduceIte,yQ,yW,yX,yZ,yJ,yK,yV,zDk,Jc,Jb,Ja,J9,XQ,mEnd,sAnswer,sAnswer.sRes]
  exact⟨_,Thin.refl _,rfl⟩
theorem pdqe_nil(lim:Int)(M:Mem):
 Abs.Spec qd 209 [.slice none 0 0,.int .i64 0,.int .i64 0,.int .i64 lim,cmpE] M fun u M'=>u=.tuple #[]∧M'=M:=by
 have is:=inse_nil M
 unfold cmpE at is ⊢
 refine UX Tryz.func209 Tryz.results209 Tryz.ntmps209 fun hc hx k=>?_
 have w0:IntKind.i64.wrap ((0:Int)-0)=0:=by decide
 have q1:decide ((0:Int)≤12)=true:=rfl
 refine J0 (R0 ?_)
 refine J0 (R0 ?_)
 refine J8 (Jt (fun j f M'=>j=0∧f=[(0,.slice none 0 0),(1,.int .i64 0),(2,.int .i64 0),(4,.func (.func 138) #[] #[])]∧M'=M) 0 ?_ ?_)
 ·refine JK [0,1,2,4] ?_
  exact⟨M,Thin.refl _,rfl⟩
 ·rintro j f M' ⟨rfl,rfl,e9⟩
  replace e9:=e9.symm;subst e9
  refine J8 (J0 (R1 @w0 ?_))
  refine J0 (J0 (R2 @q1 @decide_true ?_))
  refine CT (J0 (R0 ?_))
  refine⟨by kernel_rfl,_,is,?_⟩
  rintro _ M2 ⟨rfl,rfl⟩
  refine S0 ?_
  refine T0 ?_
  exact⟨_,Thin.refl _,rfl⟩
theorem sorte_nil(M:Mem):
 Abs.Spec qd 137 [.slice none 0 0,cmpE] M fun u M'=>u=.tuple #[]∧M'=M:=by
 have pq:=fun lim=>pdqe_nil lim M
 unfold cmpE at pq ⊢
 refine UX Tryz.func137 Tryz.results137 Tryz.ntmps137 fun hc hx k=>?_
 have bl:=fun m=>blen_spec 0 (by omega) (by omega) m
 have w0:IntKind.u64.wrap 0=0:=by decide
 refine J0 (R0 ?_)
 refine R1 @w0 ?_
 refine K0 (bl _) ?_
 refine⟨by kernel_rfl,_,pq _,?_⟩
 rintro _ M2 ⟨rfl,rfl⟩
 simp only[zZ,reduceIte,yQ,yW,yX,yZ,yJ,yK,yV,zDk,Jc,Jb,Ja,J9,XQ,mEnd,sAnswer,sAnswer.sRes]
 exact⟨_,Thin.refl _,rfl⟩
theorem sorte_own(K:Nat)(M:Mem)(V:Value)(L:List Ext)(h:Vw K M V L)(hl:L.length≤12)(hs:SmallE L):
 Abs.Spec qd 137 [V,cmpE] M
  fun u M'=>u=.tuple #[]∧(∃R,Stable Vo L R∧Vw K M' V R)∧(∀b y,QA V≠some b→M.get b=some y→M'.get b=some y)∧M'.size=M.size:=by
 rcases h with⟨rfl,rfl⟩|⟨h0,g,hk,rfl,hg⟩
 ·refine(sorte_nil M).mono ?_
  rintro u M' ⟨rfl,rfl⟩
  exact⟨rfl,⟨[],Stable.refl _ qo.nil,OwnL.nil _ _⟩,fun _ _ _ h=>h,rfl⟩
 ·refine(sorte_spec g L.length L.length M L hg rfl hl hs).mono ?_
  rintro u M' ⟨rfl,⟨R,hR,hg'⟩,ho,hsz⟩
  have hlen:=hR.len
  refine⟨rfl,⟨R,hR,.inr ⟨fun e=>h0 (qi (by rw[←hlen,e];rfl)),g,hk,by rw[hlen],hg'⟩⟩,fun b y hb hy=>ho b y (by simp;exact fun e=>hb (by rw[e];rfl)) hy,hsz⟩
def hid(h:Header):Int:=h.id
def SmallH(L:List Header):Prop:=∀h∈L, -1099511627776≤h.id∧h.id≤1099511627776
theorem hdl_len(h:Header):h.cells.length=7:=rfl
theorem hdl_one(h:Header):Jn h.cells=true:=rfl
def ZS(M:Mem)(g:Nat)(L:List Header):Prop:=M.get g=some (.cells false 7 (L.flatMap Header.cells))
theorem hdl_row{M:Mem}{g:Nat}{L:List Header}(h:ZS M g L){k:Nat}{x:Header}(hx:L[k]?=some x):Jv 7 (k*7) (M.get g)=some (.agg x.cells.toArray):=by
 rw[show M.get g=_ from h]
 exact rowIn_at (n:=7) (fun a _=>hdl_len a) hx false 7
theorem hdl_put{M:Mem}{g:Nat}{L:List Header}(h:ZS M g L){k:Nat}{x:Header}(hx:L[k]?=some x)(y:Header):∃M',Ji 7 M g (k*7) y.cells (M.get g)=some M'∧ZS M' g (L.set k y)∧Only [g] M M'∧M'.size=M.size:=by
 refine⟨_,?_,Mem.get_set_same h _,Only.set (by simp) _,Mem.size_set _ _ _⟩
 rw[show M.get g=_ from h]
 exact putIn_at (fun a _=>hdl_len a) hx y (hdl_len y) (hdl_one y) M g 7
def cmpH(cf:FuncId):Value:=.func (.func cf) #[] #[]
def CmpOk(cf:FuncId):Prop:=Qf qd cf=true∧∀a b:Header,(-1099511627776≤a.id∧a.id≤1099511627776)→(-1099511627776≤b.id∧b.id≤1099511627776)→∀m,
    Abs.Spec qd cf [.agg a.cells.toArray,.agg b.cells.toArray] m fun u M=>u=.int .i64 (a.id-b.id)∧M=m
theorem swap_adjH(P Q:List Header)(x y:Header):((P++y::x::Q).set (P.length+1) y).set P.length x=P++x::y::Q:=by
 rw[List.set_append_right _ _ (by omega),show P.length+1-P.length=1 by omega,List.set_cons_succ,List.set_cons_zero,set_mid]
theorem at_midH(P Q:List Header)(x:Header):(P++x::Q)[P.length]?=some x:=by simp
theorem at_midH1(P Q:List Header)(x y:Header):(P++y::x::Q)[P.length+1]?=some x:=by
 rw[List.getElem?_append_right (by omega)]
 simp
theorem insh_spec(cf:FuncId)(hcf:CmpOk cf)(g n c:Nat)(M:Mem)(A X B:List Header)(hg:ZS M g (A++X++B))(hn:(A++X++B).length=n)(hn2:n≤1000000)(hs:SmallH (A++X++B)):
 Abs.Spec qd 217 [.slice (some ⟨g,0,none⟩) n c,.int .i64 (A.length:Nat),.int .i64 ((A.length+X.length:Nat):Int),cmpH cf] M
  fun u M'=>u=.tuple #[]∧(∃R,Stable hid X R∧ZS M' g (A++R++B))∧Only [g] M M'∧M'.size=M.size:=by
 unfold cmpH
 refine UX Tryz.func217 Tryz.results217 Tryz.ntmps217 fun hc hx k=>?_
 have hlen:A.length+X.length+B.length=n:=by rw[←hn];simp only[qe]
 have w0:IntKind.i64.wrap (((A.length:Nat):Int)+1)=((A.length+1:Nat):Int):=by rw[Xl (by omega) (by omega)];omega
 refine J0 (R1 @w0 ?_)
 refine J8 (Jt (fun j f M'=>∃(i:Nat)(R Q:List Header),j=n+1-i∧f=[(0,.slice (some ⟨g,0,none⟩) n c),(1,.int .i64 (A.length:Nat)),(2,.int .i64 ((A.length+X.length:Nat):Int)),(3,.func (.func cf) #[] #[]),(8,.int .i64 (i:Nat))]∧
  i≤n+1∧((i=A.length+R.length∧R≠ [])∨(X=[]∧i=A.length+1))∧(∃X1,X=X1++Q∧Stable hid X1 R)∧ZS M' g (A++R++Q++B)∧Only [g] M M'∧M'.size=M.size) (n+1-(A.length+1)) ?_ ?_)
 ·refine JK [0,1,2,3,8] ?_
  cases hX:X with
  |nil=>exact⟨M,Thin.refl _,A.length+1,[],[],rfl,by simp,by omega,.inr ⟨rfl,rfl⟩,⟨[],rfl,Stable.refl _ qo.nil⟩,by rw[hX]at hg;simpa using hg,Only.refl _ _,rfl⟩
  |cons x Q=>exact⟨M,Thin.refl _,A.length+1,[x],Q,rfl,by simp,by rw[hX]at hlen;simp only[qE]at hlen;omega,.inl ⟨rfl,by simp⟩,⟨[x],rfl,Stable.refl _ (List.pairwise_singleton _ _)⟩,by rw[hX]at hg;simpa using hg,Only.refl _ _,rfl⟩
 ·rintro j f M' ⟨i,R,Q,rfl,rfl,hi,hiR,⟨X1,hX1,hst⟩,hg',ho,hsz⟩
  refine J0 (J0 (R0 ?_))
  refine CC (decide ((i:Int)<((A.length+X.length:Nat):Int))) (fun h=>J3 ?_) (fun h=>Jp ?_)
  ·have h:=of_decide_eq_true h
   obtain⟨hiA,hRne⟩:i=A.length+R.length∧R≠ []:=by
    rcases hiR with h1|⟨h1,h2⟩
    ·exact h1
    ·rw[h1,qx]at h;omega
   have hl1:=hst.len
   obtain⟨x,Q',rfl⟩:∃x Q',Q=x::Q':=by
    cases Q with
    |nil=>rw[hX1,qp]at h;omega
    |cons x Q'=>exact⟨x,Q',rfl⟩
   have hXl:X.length=X1.length+(Q'.length+1):=by rw[hX1];simp
   have hsm:∀y,y∈R∨y=x→ -1099511627776≤y.id∧y.id≤1099511627776:=fun y hy=>hs y (by
    rw[hX1]
    rcases hy with hy|rfl
    ·rw[hst.mem]at hy;simp[hy]
    ·simp)
   simp only[zZ,reduceIte,yQ,yW,yX,yZ,yJ,yK,yV]
   refine QR (fun f M2=>∃R2,f=[(0,.slice (some ⟨g,0,none⟩) n c),(1,.int .i64 (A.length:Nat)),(2,.int .i64 ((A.length+X.length:Nat):Int)),(3,.func (.func cf) #[] #[]),(8,.int .i64 (i:Nat))]∧Stable hid (X1++[x]) R2∧ZS M2 g (A++R2++Q'++B)∧Only [g] M M2∧M2.size=M.size) ?_ ?_
   ·refine J8 (J0 (R0 ?_))
    refine J8 (Jt (fun jj f M2=>∃(j:Nat)(R1 R2:List Header),jj=j∧f=[(0,.slice (some ⟨g,0,none⟩) n c),(1,.int .i64 (A.length:Nat)),(2,.int .i64 ((A.length+X.length:Nat):Int)),(3,.func (.func cf) #[] #[]),(8,.int .i64 (i:Nat)),(9,.int .i64 (j:Nat))]∧
     R=R1++R2∧j=A.length+R1.length∧(∀y∈R2,x.id<y.id)∧ZS M2 g (A++R1++x::R2++Q'++B)∧Only [g] M M2∧M2.size=M.size) i ?_ ?_)
    ·refine JK [0,1,2,3,8,9] ?_
     exact⟨M',Thin.refl _,i,R,[],rfl,rfl,by simp,hiA,by simp,by simpa using hg',ho,hsz⟩
    ·rintro j f M2 ⟨_,R1,R2,rfl,rfl,hRR,hj,hgt,hg2,ho2,hsz2⟩
     have done:(∀y∈R1,y.id≤x.id)→∀(f:AL),AL.get f 0=some (.slice (some ⟨g,0,none⟩) n c)→AL.get f 1=some (.int .i64 (A.length:Nat))→AL.get f 2=some (.int .i64 ((A.length+X.length:Nat):Int))→AL.get f 3=some (.func (.func cf) #[] #[])→AL.get f 8=some (.int .i64 (i:Nat))→
      @JoinM f M2 ⟨fun f M2=>∃R2,f=[(0,.slice (some ⟨g,0,none⟩) n c),(1,.int .i64 (A.length:Nat)),(2,.int .i64 ((A.length+X.length:Nat):Int)),(3,.func (.func cf) #[] #[]),(8,.int .i64 (i:Nat))]∧Stable hid (X1++[x]) R2∧ZS M2 g (A++R2++Q'++B)∧Only [g] M M2∧M2.size=M.size⟩:=fun hle f h0 h1 h2 h3 h8=>by
      refine⟨[0,1,2,3,8],?_⟩
      simp only[keepF,h0,h1,h2,h3,h8,zZ,reduceIte,yQ,yW,yX,yZ,yJ,yK,yV]
      have hst2:Stable hid (R++[x]) (R1++x::R2):=by
       rw[hRR]
       exact Kg hid (by rw[←hRR];exact hst.rising) (fun y hy=>hle y hy) (fun y hy=>hgt y hy)
      have hst3:Stable hid (X1++[x]) (R1++x::R2):=hst2.of_keys hid (fun k=>by rw[Xq,Xq,hst.keys]) (by simp[hst.len])
      exact⟨M2,Thin.refl _,R1++x::R2,hst3,by simpa using hg2,ho2,hsz2⟩
     refine J0 (J0 (QN hmix 14 (by kernel_rfl) (by kernel_rfl) ?_))
     rcases List.eq_nil_or_concat R1 with rfl|⟨R1',y,rfl⟩
     ·have q1:decide ((A.length:Int)<(j:Int))=false:=decide_eq_false (by rw[hj];simp)
      refine S1 @q1 ?_
      refine CF (Jp ?_)
      simp only[zZ,reduceIte,yQ,yW,yX,yZ,yJ,yK,yV]
      exact done (by simp) _ rfl rfl rfl rfl rfl
     ·obtain⟨P,hP⟩:∃P,P=A++R1':=⟨_,rfl⟩
      obtain⟨T,hT⟩:∃T,T=R2++Q'++B:=⟨_,rfl⟩
      have hL:A++R1'.concat y++x::R2++Q'++B=P++y::x::T:=by rw[hP,hT];simp
      rw[hL]at hg2
      have hjP:j=P.length+1:=by rw[hj,hP];simp;omega
      have hn3:P.length+1<n:=by
       have e:=congrArg List.length hRR
       simp only[qe,List.length_concat]at e
       rw[hP,qe]
       omega
      have q1:decide ((A.length:Int)<(j:Int))=true:=decide_eq_true (by rw[hjP,hP,qe];omega)
      have r1:=hdl_row hg2 (at_midH1 P T x y)
      have r0:=hdl_row hg2 (at_midH P (x::T) y)
      have w1:IntKind.i64.wrap ((j:Int)-1)=((P.length:Nat):Int):=by rw[Xl (by omega) (by omega)];omega
      have z1:(0:Int)≤(j:Int):=by omega
      have z2:(j:Int)<(n:Int):=by omega
      have z3:(0:Int)≤((P.length:Nat):Int):=by omega
      have z4:((P.length:Nat):Int)<(n:Int):=by omega
      rw[←hjP]at r1
      refine S9 @q1 @w1 @z1 @z2 @z3 @z4 @and_self @r0 @r1 ?_
      have sx:=hsm x (.inr rfl)
      have sy:=hsm y (.inl (by rw[hRR];simp))
      refine⟨hcf.1,_,hcf.2 x y sx sy M2,?_⟩
      rintro _ M9 ⟨rfl,e9⟩;replace e9:=e9.symm;subst e9
      refine⟨by decide,?_⟩
      refine S0 ?_
      refine CC (decide (x.id-y.id<0)) (fun h=>J3 ?_) (fun h=>Jp ?_)
      ·have h:=of_decide_eq_true h
       obtain⟨M3,hp3,hg3,ho3,hs3⟩:=hdl_put hg2 (show(P++y::x::T)[j]?=some x by rw[hjP];exact at_midH1 P T x y) y
       have hx3:((P++y::x::T).set j y)[P.length]?=some y:=by
        rw[qv (by omega)];exact at_midH P (x::T) y
       obtain⟨M4,hp4,hg4,ho4,hs4⟩:=hdl_put hg3 hx3 x
       rw[hjP,swap_adjH]at hg4
       simp only[zZ,reduceIte,yQ,yW,yX,yZ,yJ,yK,yV]
       refine J0 (J8 (CW_draw4 hmix 15 [2,3,4] (by kernel_rfl) ?_))
       simp only[sQB,Zq,Option.bind_some,zZ,reduceIte,yQ,yW,yX,yZ,yJ,yK,yV,zDk,Jc,Jb,Ja,J9,XQ,w1,z1,z2,z3,z4,and_self,r0,r1,hp3,hp4]
       refine⟨⟨⟨_,rfl⟩,⟨_,rfl⟩,⟨_,rfl⟩⟩,?_⟩
       refine R1 @w1 ?_
       refine JK [0,1,2,3,8,9] ?_
       refine⟨M4,Thin.refl _,P.length,⟨P.length,R1',y::R2,rfl,rfl,by rw[hRR];simp,by rw[hP,qe],?_,?_,ho2.trans (ho3.trans ho4),by omega⟩,by omega⟩
       ·intro z hz
        rcases qt.1 hz with rfl|hz
        ·omega
        ·exact hgt z hz
       ·have e:A++R1'++x::(y::R2)++Q'++B=P++x::y::T:=by rw[hP,hT];simp
        rw[e];exact hg4
      ·have h:=of_decide_eq_false h
       simp only[zZ,reduceIte,yQ,yW,yX,yZ,yJ,yK,yV]
       refine done (fun z hz=>?_) _ rfl rfl rfl rfl rfl
       have hr:=hst.rising
       rw[hRR]at hr
       have hr:=(Rising.parts hid hr).1
       rw[List.concat_eq_append]at hr hz
       rcases qG.1 hz with hz|hz
       ·have:=(Rising.parts hid hr).2.2 z hz y (by simp)
        unfold hid at this
        omega
       ·simp only[qL]at hz
        rw[hz];omega
   ·rintro _ M2 ⟨R2,rfl,hst2,hg2,ho2,hsz2⟩
    have hl2:=hst2.len
    have w1:IntKind.i64.wrap ((i:Int)+1)=((i+1:Nat):Int):=by rw[Xl (by omega) (by omega)];omega
    refine R1 @w1 ?_
    refine JK [0,1,2,3,8] ?_
    refine⟨M2,Thin.refl _,n+1-(i+1),⟨i+1,R2,Q',rfl,rfl,by omega,.inl ⟨?_,?_⟩,⟨X1++[x],by rw[hX1];simp,hst2⟩,hg2,ho2,hsz2⟩,by omega⟩
    ·rw[hl2,hiA];simp;omega
    ·intro e;rw[e]at hl2;simp at hl2
  ·have h:=of_decide_eq_false h
   have hl1:=hst.len
   have hQ:Q=[]:=by
    rcases hiR with⟨h1,h2⟩|⟨h1,h2⟩
    ·have:Q.length=0:=by rw[hX1,qe]at h;omega
     exact qi this
    ·rw[h1]at hX1;exact(List.append_eq_nil_iff.1 hX1.symm).2
   simp only[zZ,reduceIte,yQ,yW,yX,yZ,yJ,yK,yV,zDk,Jc,Jb,Ja,J9,XQ,mEnd,sAnswer,sAnswer.sRes]
   rw[hQ,qp]at hg' hX1
   exact⟨M',Thin.refl _,⟨R,by rw[hX1];exact hst,hg'⟩,ho,hsz⟩
theorem pdqh_spec(cf:FuncId)(hcf:CmpOk cf)(g n c:Nat)(lim:Int)(M:Mem)(L:List Header)(hg:ZS M g L)(hn:L.length=n)(hn2:n≤12)(hs:SmallH L):
 Abs.Spec qd 145 [.slice (some ⟨g,0,none⟩) n c,.int .i64 0,.int .i64 (n:Nat),.int .i64 lim,cmpH cf] M
  fun u M'=>u=.tuple #[]∧(∃R,Stable hid L R∧ZS M' g R)∧Only [g] M M'∧M'.size=M.size:=by
 unfold cmpH
 refine UX Tryz.func145 Tryz.results145 Tryz.ntmps145 fun hc hx k=>?_
 have w0:IntKind.i64.wrap ((n:Int)-0)=(n:Int):=by rw[Xl (by omega) (by omega)];omega
 have q1:decide ((n:Int)≤12)=true:=decide_eq_true (by omega)
 have is:=insh_spec cf hcf g n c M [] L [] (by simpa using hg) (by simpa using hn) (by omega) (by simpa using hs)
 simp only[qx,qH,hn,qB,qp]at is
 unfold cmpH at is
 refine J0 (R0 ?_)
 refine J0 (R0 ?_)
 refine J8 (Jt (fun j f M'=>j=0∧f=[(0,.slice (some ⟨g,0,none⟩) n c),(1,.int .i64 0),(2,.int .i64 (n:Nat)),(4,.func (.func cf) #[] #[])]∧M'=M) 0 ?_ ?_)
 ·refine JK [0,1,2,4] ?_
  exact⟨M,Thin.refl _,rfl⟩
 ·rintro j f M' ⟨rfl,rfl,e9⟩
  replace e9:=e9.symm;subst e9
  refine J8 (J0 (R1 @w0 ?_))
  refine J0 (J0 (R1 @q1 ?_))
  refine CT (J0 (R0 ?_))
  refine⟨by kernel_rfl,_,is,?_⟩
  rintro _ M2 ⟨rfl,hR,ho,hsz⟩
  refine S0 ?_
  refine T0 ?_
  exact⟨_,Thin.refl _,hR,ho,hsz⟩
theorem sorth_spec(cf:FuncId)(hcf:CmpOk cf)(g n c:Nat)(M:Mem)(L:List Header)(hg:ZS M g L)(hn:L.length=n)(hn2:n≤12)(hs:SmallH L):
 Abs.Spec qd 66 [.slice (some ⟨g,0,none⟩) n c,cmpH cf] M
  fun u M'=>u=.tuple #[]∧(∃R,Stable hid L R∧ZS M' g R)∧Only [g] M M'∧M'.size=M.size:=by
 unfold cmpH
 refine UX Tryz.func66 Tryz.results66 Tryz.ntmps66 fun hc hx k=>?_
 have bl:=fun m=>blen_spec (n:Int) (by omega) (by omega) m
 have w0:IntKind.u64.wrap (n:Int)=(n:Int):=by unfold IntKind.wrap;simp[IntKind.bits,IntKind.signed];omega
 have pq:=fun lim=>pdqh_spec cf hcf g n c lim M L hg hn hn2 hs
 unfold cmpH at pq
 refine J0 (R0 ?_)
 refine R1 @w0 ?_
 refine K0 (bl _) ?_
 refine⟨by kernel_rfl,_,pq _,?_⟩
 rintro _ M2 ⟨rfl,hR,ho,hsz⟩
 simp only[zZ,reduceIte,yQ,yW,yX,yZ,yJ,yK,yV,zDk,Jc,Jb,Ja,J9,XQ,mEnd,sAnswer,sAnswer.sRes]
 exact⟨_,Thin.refl _,hR,ho,hsz⟩
abbrev Vj(K:Nat)(M:Mem)(V:Value)(L:List Header):Prop:=OwnL Header.cells 7 K M V L
theorem insh_nil(cf:FuncId)(hcf:CmpOk cf)(M:Mem):
 Abs.Spec qd 217 [.slice none 0 0,.int .i64 0,.int .i64 0,cmpH cf] M fun u M'=>u=.tuple #[]∧M'=M:=by
 unfold cmpH
 refine UX Tryz.func217 Tryz.results217 Tryz.ntmps217 fun hc hx k=>?_
 have w0:IntKind.i64.wrap ((0:Int)+1)=1:=by decide
 have q1:decide ((1:Int)<0)=false:=rfl
 refine J0 (R1 @w0 ?_)
 refine J8 (Jt (fun j f M'=>j=0∧f=[(0,.slice none 0 0),(1,.int .i64 0),(2,.int .i64 0),(3,.func (.func cf) #[] #[]),(8,.int .i64 1)]∧M'=M) 0 ?_ ?_)
 ·refine JK [0,1,2,3,8] ?_
  exact⟨M,Thin.refl _,rfl⟩
 ·rintro j f M' ⟨rfl,rfl,e9⟩
  replace e9:=e9.symm;subst e9
  refine J0 (J0 (R2 @q1 @decide_false ?_))
  refine CF (Jp ?_)
  simp only[zZ,reduceIte,yQ,yW,yX,yZ,yJ,yK,yV,zDk,Jc,Jb,Ja,J9,XQ,mEnd,sAnswer,sAnswer.sRes]
  exact⟨_,Thin.refl _,rfl⟩
theorem pdqh_nil(cf:FuncId)(hcf:CmpOk cf)(lim:Int)(M:Mem):
 Abs.Spec qd 145 [.slice none 0 0,.int .i64 0,.int .i64 0,.int .i64 lim,cmpH cf] M fun u M'=>u=.tuple #[]∧M'=M:=by
 have is:=insh_nil cf hcf M
 unfold cmpH at is ⊢
 refine UX Tryz.func145 Tryz.results145 Tryz.ntmps145 fun hc hx k=>?_
 have w0:IntKind.i64.wrap ((0:Int)-0)=0:=by decide
 have q1:decide ((0:Int)≤12)=true:=rfl
 refine J0 (R0 ?_)
 refine J0 (R0 ?_)
 refine J8 (Jt (fun j f M'=>j=0∧f=[(0,.slice none 0 0),(1,.int .i64 0),(2,.int .i64 0),(4,.func (.func cf) #[] #[])]∧M'=M) 0 ?_ ?_)
 ·refine JK [0,1,2,4] ?_
  exact⟨M,Thin.refl _,rfl⟩
 ·rintro j f M' ⟨rfl,rfl,e9⟩
  replace e9:=e9.symm;subst e9
  refine J8 (J0 (R1 @w0 ?_))
  refine J0 (J0 (R2 @q1 @decide_true ?_))
  refine CT (J0 (R0 ?_))
  refine⟨by kernel_rfl,_,is,?_⟩
  rintro _ M2 ⟨rfl,rfl⟩
  refine S0 ?_
  refine T0 ?_
  exact⟨_,Thin.refl _,rfl⟩
theorem sorth_nil(cf:FuncId)(hcf:CmpOk cf)(M:Mem):
 Abs.Spec qd 66 [.slice none 0 0,cmpH cf] M fun u M'=>u=.tuple #[]∧M'=M:=by
 have pq:=fun lim=>pdqh_nil cf hcf lim M
 unfold cmpH at pq ⊢
 refine UX Tryz.func66 Tryz.results66 Tryz.ntmps66 fun hc hx k=>?_
 have bl:=fun m=>blen_spec 0 (by omega) (by omega) m
 have w0:IntKind.u64.wrap 0=0:=by decide
 refine J0 (R0 ?_)
 refine R1 @w0 ?_
 refine K0 (bl _) ?_
 refine⟨by kernel_rfl,_,pq _,?_⟩
 rintro _ M2 ⟨rfl,rfl⟩
 simp only[zZ,reduceIte,yQ,yW,yX,yZ,yJ,yK,yV,zDk,Jc,Jb,Ja,J9,XQ,mEnd,sAnswer,sAnswer.sRes]
 exact⟨_,Thin.refl _,rfl⟩
theorem sorth_own(cf:FuncId)(hcf:CmpOk cf)(K:Nat)(M:Mem)(V:Value)(L:List Header)(h:Vj K M V L)(hl:L.length≤12)(hs:SmallH L):
 Abs.Spec qd 66 [V,cmpH cf] M
  fun u M'=>u=.tuple #[]∧(∃R,Stable hid L R∧Vj K M' V R)∧(∀b y,QA V≠some b→M.get b=some y→M'.get b=some y)∧M'.size=M.size:=by
 rcases h with⟨rfl,rfl⟩|⟨h0,g,hk,rfl,hg⟩
 ·refine(sorth_nil cf hcf M).mono ?_
  rintro u M' ⟨rfl,rfl⟩
  exact⟨rfl,⟨[],Stable.refl _ qo.nil,OwnL.nil _ _⟩,fun _ _ _ h=>h,rfl⟩
 ·refine(sorth_spec cf hcf g L.length L.length M L hg rfl hl hs).mono ?_
  rintro u M' ⟨rfl,⟨R,hR,hg'⟩,ho,hsz⟩
  have hlen:=hR.len
  refine⟨rfl,⟨R,hR,.inr ⟨fun e=>h0 (qi (by rw[←hlen,e];rfl)),g,hk,by rw[hlen],hg'⟩⟩,fun b y hb hy=>ho b y (by simp;exact fun e=>hb (by rw[e];rfl)) hy,hsz⟩
theorem insHead_split(h:Header):∀l,Rising hid l→∃a b,l=a++b∧insHead l h=a++h::b∧(∀x∈a,hid x≤hid h)∧(∀x∈b,hid h<hid x)
 | [],_=>⟨[],[],rfl,rfl,by simp,by simp⟩
 |x::r,hr=>by
  unfold Rising at hr
  rw[List.pairwise_cons]at hr
  by_cases q:x.id≤h.id
  ·obtain⟨a,b,h1,h2,h3,h4⟩:=insHead_split h r hr.2
   refine⟨x::a,b,by rw[h1];rfl,?_,?_,h4⟩
   ·unfold insHead
    rw[if_pos q,h2]
    rfl
   ·intro y hy
    rcases qt.1 hy with rfl|hy
    ·exact q
    ·exact h3 y hy
  ·refine⟨[],x::r,rfl,?_,by simp,?_⟩
   ·unfold insHead
    rw[if_neg q]
    rfl
   ·intro y hy
    rcases qt.1 hy with rfl|hy
    ·unfold hid;omega
    ·have:=hr.1 y hy
     unfold hid at*
     omega
theorem heads_go(l:List Header):∀X acc,Stable hid X acc→Stable hid (X++l) (l.foldl insHead acc):=by
 induction l with
 |nil=>intro X acc h;rw[qp];exact h
 |cons x l ih=>
  intro X acc h
  obtain⟨a,b,h1,h2,h3,h4⟩:=insHead_split x acc h.rising
  rw[List.foldl_cons,show X++x::l=X++[x]++l by simp]
  refine ih (X++[x]) _ ?_
  rw[h2]
  have hst2:Stable hid (a++b++[x]) (a++x::b):=Kg hid (by rw[←h1];exact h.rising) h3 h4
  exact hst2.of_keys hid (fun k=>by rw[Xq,Xq hid k X,←h1,h.keys]) (by rw[←h1];simp[h.len])
theorem heads_stable(l:List Header):Stable hid l (headsOf l):=by
 have:=heads_go l [] [] (Stable.refl hid qo.nil)
 rw[qB]at this
 exact this
theorem heads_eq{l r:List Header}(h:Stable hid l r):r=headsOf l:=Stable.unique hid h (heads_stable l)
end Go.Proofs.YteccmcpaheepcaaGreatDoor
namespace Go.Proofs.YteccmcpaheepcaaGreatDoor
open Go.RowKit Abs
section
variable {key : List UInt8} {a : Arc} {ep st : Int} {G : List Bool}
theorem stage_d1(hk:ArcOk key a){d:Dsk}(hd:d.dead=false){k:Nat}{b:List UInt8}(hb:a.blocks[k]?=some b):
 Dep.stage d (Ze key a ep st G) a.head.id (k:Int) b=if G.getD k false=true then(d,Ze key a ep st G,0)else Dep.staged1 d (Ze key a ep st G) 0 ⟨a.ext,G⟩ (k:Int) b:=by
 have hkl:=(qf.1 hb).1
 have hl:=hk.len
 have hbl:=hk.size b (qk hb)
 unfold Dep.stage
 rw[if_neg (by rw[hd];decide),d1_rec]
 simp only
 rw[if_neg (by show¬((k:Int)<0∨a.head.n≤(k:Int));omega),if_neg (by simp[hbl]),qu]
theorem kept_d0:(Dp0 key ep st).keptL=[]:=rfl
theorem kept_d2:(Dp2 key a ep st).keptL=[a.head]:=rfl
end
def hello:List UInt8:=[104,101,108,108,111]
theorem wake_plain(key:List UInt8)(a:Arc)(hk:ArcOk key a)(hl:a.blocks.length=1)(b:List UInt8)(hb:a.blocks[0]?=some b):
 ∃d1 G d2 d3,Dep.begin (JV 20) (Dp0 key 1 0) a.head=(d1,Ze key a 1 0 G,0)∧Dep.stage d1 (Ze key a 1 0 G) a.head.id 0 b=(d2,Ze key a 1 1 [true],0)∧Dep.commit d2 (Ze key a 1 1 [true]) a.head.id=(d3,Dp2 key a 1 1,0):=by
 obtain⟨h1,h2,h3,h4,h5⟩:=hist_new 20 (by decide) (by decide) a (fun _=>True)
 have hl6:a.blocks.length≤6:=by omega
 have ln:=hk.len
 rcases sess_begin (ep:=1) (st:=0) hk hl6 h1 h2 h4 h5 h3.1 with⟨b1,b2,b3,b4,b5⟩|⟨b1,_⟩
 ·obtain⟨X,hX⟩:∃X,X=Dep.begin (JV 20) (Dp0 key 1 0) a.head:=⟨_,rfl⟩
  rw[←hX]at b1 b2 b3 b4 b5
  have lv1:=b5 h3
  have hf:XF a=[false]:=by
   unfold XF
   rw[show a.head.n.toNat=1 by omega]
   rfl
  rw[hf]at b2 b3
  have e1:Dep.begin (JV 20) (Dp0 key 1 0) a.head=(X.1,Ze key a 1 0 [false],0):=by rw[←hX];exact Prod.ext rfl (Prod.ext b2 b1)
  have s1:=stage_d1 (ep:=1) (st:=0) (G:=[false]) hk lv1.1 hb
  rw[if_neg (by simp)]at s1
  rcases sess_stage (ep:=1) (st:=0) hk hl6 b3 lv1.1 0 b hb rfl with⟨c1,c2,c3,c4,c5⟩|⟨c1,_⟩
  ·obtain⟨Y,hY⟩:∃Y,Y=Dep.staged1 X.1 (Ze key a 1 0 [false]) 0 ⟨a.ext,[false]⟩ ((0:Nat):Int) b:=⟨_,rfl⟩
   rw[←hY]at c1 c2 c3 c4 c5 s1
   have lv2:=c5 lv1
   have hG:([false]:List Bool).set 0 true=qc a.blocks.length true:=by rw[hl];rfl
   rcases sess_commit (ep:=1) (st:=1) hk hl6 hG c3 lv2.1 with⟨f1,f2,_⟩|⟨f1,_⟩
   ·refine⟨X.1,[false],Y.1,(Dep.commit Y.1 (Ze key a 1 1 [true]) a.head.id).1,e1,?_,?_⟩
    ·show Dep.stage X.1 (Ze key a 1 0 [false]) a.head.id ((0:Nat):Int) b=_
     rw[s1]
     show Y=(Y.1,Ze key a 1 1 [true],0)
     exact Prod.ext rfl (Prod.ext c2 c1)
    ·have f1':(Dep.commit Y.1 (Ze key a 1 1 [true]) a.head.id).2.2=0:=f1
     have f2':(Dep.commit Y.1 (Ze key a 1 1 [true]) a.head.id).2.1=Dp2 key a 1 1:=f2
     exact Prod.ext rfl (Prod.ext f2' f1')
   ·exact absurd lv2 f1
  ·exact absurd lv1 c1
 ·exact absurd h3 b1
section
variable {key : List UInt8} {a : Arc} {d : Dsk} {D : Dep} {e : Nat} {n : Int}
theorem UO(d:Dsk)(n:Int)(i:Nat)(s:List UInt8):(d.setFuse n).poss i s↔d.poss i s:=by
 unfold Dsk.setFuse
 split<;>exact Iff.rfl
theorem fuse_old(d:Dsk)(n:Int):(d.setFuse n).old=d.old:=by unfold Dsk.setFuse;split<;>rfl
theorem Ub(d:Dsk)(n:Int)(i:Nat):(d.setFuse n).sector i=d.sector i:=by unfold Dsk.setFuse;split<;>rfl
theorem fuse_dead(d:Dsk)(n:Int):(d.setFuse n).dead=d.dead:=by unfold Dsk.setFuse;split<;>rfl
theorem fuse_ok(h:d.Ok)(hn:n≤9223372036854775807):(d.setFuse n).Ok:=by
 unfold Dsk.setFuse
 split
 ·exact h
 ·exact⟨h.n,h.pos,h.size,h.keys,h.born,h.clock,h.within,⟨by show-1≤max n (-1);omega,by show max n (-1)≤_;omega⟩,trivial⟩
theorem Hist.fused{P:List Bool→Prop}(h:Hist a d e P)(hn:n≤9223372036854775807):Hist a (d.setFuse n) e P:=h.cong (fuse_ok h.ok hn) (by rw[fuse_old]) fun i t=>UO d n i t
theorem Sess.fused{Gp G:List Bool}(h:Sess a e d Gp G)(hn:n≤9223372036854775807):Sess a e (d.setFuse n) Gp G:=
 ⟨h.hist.fused hn,h.len,by rw[Ub];exact h.cur,h.sure.less fun i t _ ht=>.inl ((UO d n i t).1 ht),fun s hs=>h.one s ((UO d n 1 s).1 hs),fun s hs=>h.five s ((UO d n 5 s).1 hs)⟩
def Opn(key:List UInt8)(a:Arc)(e:Nat)(d:Dsk)(D:Dep):Prop:=
 Clean d∧d.dead=false∧Hist a d e (fun _=>True)∧((JO (d.sector 1)=[]∧JO (d.sector 5)=[]∧∃ep,D=Dp0 key ep 0)∨(∃G ep,D=Ze key a ep 0 G∧Sess a e d G G)∨∃ep,D=Dp2 key a ep 0)
theorem Opn.fused(h:Opn key a e d D)(hn:n≤9223372036854775807):Opn key a e (d.setFuse n) D:=by
 obtain⟨h1,h2,h3,h4⟩:=h
 refine⟨fun i s hs=>by rw[Ub];exact h1 i s ((UO d n i s).1 hs),by rw[fuse_dead];exact h2,h3.fused hn,?_⟩
 rcases h4 with⟨h5,h6,h7⟩|⟨G,ep,h5,h6⟩|h5
 ·exact .inl ⟨by rw[Ub];exact h5,by rw[Ub];exact h6,h7⟩
 ·exact .inr (.inl ⟨G,ep,h5,h6.fused hn⟩)
 ·exact .inr (.inr h5)
theorem opn_new(key:List UInt8)(a:Arc)(N:Nat)(h1:20≤N)(h2:N≤1024):Opn key a 1 (JV N) (Dp0 key 1 0):=by
 obtain⟨q1,q2,q3,q4,q5⟩:=hist_new N h1 h2 a (fun _=>True)
 exact⟨q2,q3.1,q1,.inl ⟨q4,q5,1,rfl⟩⟩
theorem opn_again(hk:ArcOk key a)(hl:a.blocks.length≤6)(h:Hist a d e fun _=>True)(he:e<4294967295)(bits:Int):∃d' D,openD (d.crash bits) key=(d',some D,0)∧Opn key a (e+1) d' D:=by
 obtain⟨d',D,h1,h2⟩:=reopen hk hl (h.crash bits) (Dsk.crash_live d bits) (crash_clean d bits) he
 refine⟨d',D,h1,h2.clean,h2.live.1,h2.hist,?_⟩
 rcases h2.how with⟨_,_,h5,h6,h7⟩|⟨G,_,_,_,⟨ep,h5⟩,h6⟩|⟨_,h5,_⟩
 ·exact .inl ⟨h6,h7,h5⟩
 ·exact .inr (.inl ⟨G,ep,h5,h6⟩)
 ·exact .inr (.inr h5)
def Inn(key:List UInt8)(a:Arc)(e c:Nat)(j:Int)(d:Dsk)(D:Dep)(W:List Int):Prop:=(0≤D.staged∧D.staged≤j)∧(∀w∈W,0≤w)∧
 ((∃ep st Gp G,D=Ze key a ep st G∧Sess a e d Gp G∧d.dead=false∧∀(k:Nat) w,W[k]?=some w→w≤(c:Int)+if G.getD k false=true then 1 else 0)∨
  (Hist a d e (fun _=>True)∧(∀id i s,∃x,Dep.stage d D id i s=(d,D,x))∧∀w∈W,w≤(c:Int)+1))
theorem Inn.hist{c:Nat}{j:Int}{W:List Int}(h:Inn key a e c j d D W):Hist a d e fun _=>True:=by
 rcases h.2.2 with⟨_,_,_,_,_,h,_⟩|⟨h,_⟩
 ·exact h.hist.weaken (qh _) fun _ _=>trivial
 ·exact h
theorem Inn.le{c:Nat}{j:Int}{W:List Int}(h:Inn key a e c j d D W):∀w∈W,w≤(c:Int)+1:=fun w hw=>by
 rcases h.2.2 with⟨_,_,_,G,_,_,_,h⟩|⟨_,_,h⟩
 ·obtain⟨k,hk⟩:=qI hw
  have:=h k w hk
  split at this<;>omega
 ·exact h w hw
theorem stuck_dead(h:d.dead=true)(D:Dep)(id i:Int)(s:List UInt8):∃x,Dep.stage d D id i s=(d,D,x):=⟨7,by unfold Dep.stage;rw[if_pos h]⟩
theorem stuck_kept(d:Dsk)(ep st id i:Int)(s:List UInt8):∃x,Dep.stage d (Dp2 key a ep st) id i s=(d,Dp2 key a ep st,x):=by
 unfold Dep.stage
 split
 ·exact⟨_,rfl⟩
 ·exact⟨8,rfl⟩
theorem begin_kept(hk:ArcOk key a){ep st:Int}(hd:d.dead=false):Dep.begin d (Dp2 key a ep st) a.head=(d,Dp2 key a ep st,0):=by
 have hh:(Dp2 key a ep st).headAt a.head.id=(a.head,true,0):=by
  unfold Dep.headAt
  rw[d2_ext];rfl
 unfold Dep.begin
 rw[if_neg (by rw[hd];decide),if_neg (by show¬a.head.verify key≠0;simp[hk.ver]),hh,if_pos rfl,if_pos rfl]
theorem inn_begin(hk:ArcOk key a)(hl:a.blocks.length≤6)(ho:Opn key a e d D){c:Nat}{W:List Int}(h0:∀w∈W,0≤w)(hW:∀w∈W,w≤(c:Int)):Inn key a e c 0 (Dep.begin d D a.head).1 (Dep.begin d D a.head).2.1 W:=by
 obtain⟨hc,hd,hh,how⟩:=ho
 have hW':∀(G:List Bool)(k:Nat) w,W[k]?=some w→w≤(c:Int)+if G.getD k false=true then 1 else 0:=fun G k w hw=>by
  have:=hW w (qk hw)
  split<;>omega
 rcases how with⟨h1,h5,ep,rfl⟩|⟨G,ep,rfl,hs⟩|⟨ep,rfl⟩
 ·rcases sess_begin (ep:=ep) (st:=0) hk hl hh hc h1 h5 hd with⟨_,b2,b3,b4,_⟩|⟨_,_,b3,b4,b5⟩
  ·exact⟨by rw[b2];exact⟨qq _,qq _⟩,h0,.inl ⟨ep,0,_,_,b2,b3,b4,hW' _⟩⟩
  ·exact⟨by rw[b3];exact⟨qq _,qq _⟩,h0,.inr ⟨b4.weaken (qh _) fun _ _=>trivial,stuck_dead b5 _,fun w hw=>by have:=hW w hw;omega⟩⟩
 ·rw[begin_under hk hd]
  exact⟨⟨qq _,qq _⟩,h0,.inl ⟨ep,0,G,G,rfl,hs,hd,hW' _⟩⟩
 ·rw[begin_kept hk hd]
  exact⟨⟨qq _,qq _⟩,h0,.inr ⟨hh,stuck_kept d ep 0,fun w hw=>by have:=hW w hw;omega⟩⟩
theorem inn_stage(hk:ArcOk key a)(hl:a.blocks.length≤6){c:Nat}{j:Int}{W:List Int}(h:Inn key a e c j d D W){k:Nat}{b:List UInt8}(hb:a.blocks[k]?=some b){w:Int}(hw:W[k]?=some w):
 Inn key a e c (j+1) (Dep.stage d D a.head.id (k:Int) b).1 (Dep.stage d D a.head.id (k:Int) b).2.1 (W.set k (w+(Dep.stage d D a.head.id (k:Int) b).2.1.staged-D.staged)):=by
 obtain⟨⟨hs0,hsj⟩,h0,how⟩:=h
 have hkW:=(qf.1 hw).1
 have same:W.set k w=W:=set_same hw
 have stay:w+D.staged-D.staged=w:=by omega
 rcases how with⟨ep,st,Gp,G,rfl,hs,hd,hW⟩|⟨hh,hst,hW⟩
 ·rw[stage_d1 hk hd hb]
  by_cases hG:G.getD k false=true
  ·rw[if_pos hG]
   simp only[stay,same]
   exact⟨⟨hs0,by omega⟩,h0,.inl ⟨ep,st,Gp,G,rfl,hs,hd,hW⟩⟩
  ·rw[if_neg hG]
   have hG':G.getD k false=false:=by simpa using hG
   have hwk:=hW k w hw
   rw[if_neg hG]at hwk
   have hw0:=h0 w (qk hw)
   have hst0:(Ze key a ep st G).staged=st:=rfl
   rw[hst0]at hs0 hsj ⊢
   rcases sess_stage (ep:=ep) (st:=st) hk hl hs hd k b hb hG' with⟨_,b2,b3,b4,_⟩|⟨_,_,⟨st',b3,b4⟩,b5,_,b7⟩
   ·rw[b2]
    have e1:(Ze key a ep (st+1) (G.set k true)).staged=st+1:=rfl
    rw[e1]
    refine⟨⟨by omega,by omega⟩,fun x hx=>?_,.inl ⟨ep,st+1,G,G.set k true,rfl,b3,b4,fun i x hx=>?_⟩⟩
    ·rcases qC hx with hx|rfl
     ·exact h0 x hx
     ·omega
    ·rw[List.getElem?_set]at hx
     split at hx
     ·rename_i ek
      subst ek
      cases hx
      have hGl:k<G.length:=by have:=hs.len;have:=hk.len;have:=(qf.1 hb).1;omega
      rw[qA,List.getElem?_set_self hGl,Option.getD_some,if_pos rfl]
      omega
     ·rename_i ek
      rw[qA,qv ek,←qA]
      exact hW i x hx
   ·rw[b4]
    have e1:(Ze key a ep st' G).staged=st':=rfl
    rw[e1]
    refine⟨⟨by omega,by omega⟩,fun x hx=>?_,.inr ⟨b5.weaken (qh _) fun _ _=>trivial,stuck_dead b7 _,fun x hx=>?_⟩⟩
    ·rcases qC hx with hx|rfl
     ·exact h0 x hx
     ·omega
    ·rcases qC hx with hx|rfl
     ·obtain⟨i,hi⟩:=qI hx
      have:=hW i x hi
      split at this<;>omega
     ·omega
 ·obtain⟨x,hx⟩:=hst a.head.id (k:Int) b
  rw[hx]
  simp only[stay,same]
  exact⟨⟨hs0,by omega⟩,h0,.inr ⟨hh,hst,hW⟩⟩
end
end Go.Proofs.YteccmcpaheepcaaGreatDoor
namespace Go.Proofs
open Go.Shelf
def Tryz.keysA_ren:Go.Shelf.Ren:=⟨fun|7=>167|10=>243|n=>n,fun|23=>90|26=>3|3=>9|28=>241|0=>0|27=>240|33=>74|4=>4|n=>n,fun|n=>n⟩
theorem Tryz.keysA:Go.Proofs.SlLaysZI.n7 qd Tryz.keysA_ren:={
 mixed:=by kernel_rfl
 f7:=⟨Tryz.f167.name,by decide,Tryz.func167.trans (congrArg some (by kernel_rfl))⟩
 f10:=⟨Tryz.f243.name,by decide,Tryz.func243.trans (congrArg some (by kernel_rfl))⟩
 t0:=Tryz.underlying0
 a0:=Tryz.isAgg0
 z0:=Tryz.sizeOf0
 v0:=Tryz.zeroValue0
 t4:=Tryz.underlying4
 a4:=Tryz.isAgg4
 z4:=Tryz.sizeOf4
 v4:=Tryz.zeroValue4
 t23:=Tryz.underlying90
 a23:=Tryz.isAgg90
 z23:=Tryz.sizeOf90
 v23:=Tryz.zeroValue90
 t26:=qw
 a26:=Tryz.isAgg3
 z26:=Tryz.sizeOf3
 v26:=qJ
 t27:=Tryz.underlying240
 a27:=Tryz.isAgg240
 z27:=Tryz.sizeOf240
 v27:=Tryz.zeroValue240
 t28:=Tryz.underlying241
 a28:=Tryz.isAgg241
 z28:=Tryz.sizeOf241
 v28:=Tryz.zeroValue241
 t33:=Tryz.underlying74
 a33:=Tryz.isAgg74
 z33:=Tryz.sizeOf74
 v33:=Tryz.zeroValue74 }
def Tryz.sortedA_ren:Go.Shelf.Ren:=⟨fun|6=>166|8=>241|9=>242|11=>286|13=>146|12=>287|23=>225|24=>226|14=>307|15=>308|16=>309|17=>310|18=>311|19=>312|20=>313|21=>314|22=>315|25=>325|26=>277|27=>278|28=>326|29=>327|30=>328|31=>331|n=>n,fun|26=>3|28=>241|24=>71|0=>0|3=>3|37=>84|48=>261|50=>54|4=>4|40=>287|39=>286|45=>126|5=>5|9=>9|51=>332|55=>336|57=>356|58=>149|33=>74|n=>n,fun|n=>n⟩
theorem Tryz.sortedA:Go.Proofs.SlLaysZI.n6 qd Tryz.sortedA_ren:={
 mixed:=by kernel_rfl
 f6:=⟨Tryz.f166.name,by decide,Tryz.func166.trans (congrArg some (by kernel_rfl))⟩
 f8:=⟨Tryz.f241.name,by decide,Tryz.func241.trans (congrArg some (by kernel_rfl))⟩
 f11:=⟨Tryz.f286.name,by decide,Tryz.func286.trans (congrArg some (by kernel_rfl))⟩
 t0:=Tryz.underlying0
 a0:=Tryz.isAgg0
 z0:=Tryz.sizeOf0
 v0:=Tryz.zeroValue0
 t24:=Tryz.underlying71
 a24:=Tryz.isAgg71
 z24:=Tryz.sizeOf71
 v24:=Tryz.zeroValue71
 t26:=qw
 a26:=Tryz.isAgg3
 z26:=Tryz.sizeOf3
 v26:=qJ
 t28:=Tryz.underlying241
 a28:=Tryz.isAgg241
 z28:=Tryz.sizeOf241
 v28:=Tryz.zeroValue241
 i26:=by kernel_rfl }
def Tryz.sortA_ren:Go.Shelf.Ren:=⟨fun|5=>242|8=>146|7=>287|19=>225|20=>226|10=>307|11=>308|12=>309|13=>310|14=>311|15=>312|16=>313|17=>314|18=>315|30=>325|31=>277|32=>278|33=>326|34=>327|35=>328|40=>331|n=>n,fun|23=>71|25=>3|3=>3|32=>84|22=>71|0=>0|44=>261|46=>54|4=>4|36=>287|35=>286|41=>126|5=>5|9=>9|53=>332|57=>336|63=>356|64=>149|n=>n,fun|n=>n⟩
theorem Tryz.sortA:Go.Proofs.SlLaysM.n5 qd Tryz.sortA_ren:={
 mixed:=by kernel_rfl
 f5:=⟨Tryz.f242.name,by decide,Tryz.func242.trans (congrArg some (by kernel_rfl))⟩
 f7:=⟨Tryz.f287.name,by decide,Tryz.func287.trans (congrArg some (by kernel_rfl))⟩
 f8:=Tryz.func146.trans (congrArg some (by kernel_rfl))
 f10:=⟨Tryz.f307.name,by decide,Tryz.func307.trans (congrArg some (by kernel_rfl))⟩
 f11:=⟨Tryz.f308.name,by decide,Tryz.func308.trans (congrArg some (by kernel_rfl))⟩
 f12:=⟨Tryz.f309.name,by decide,Tryz.func309.trans (congrArg some (by kernel_rfl))⟩
 f13:=⟨Tryz.f310.name,by decide,Tryz.func310.trans (congrArg some (by kernel_rfl))⟩
 f14:=⟨Tryz.f311.name,by decide,Tryz.func311.trans (congrArg some (by kernel_rfl))⟩
 f15:=⟨Tryz.f312.name,by decide,Tryz.func312.trans (congrArg some (by kernel_rfl))⟩
 f16:=⟨Tryz.f313.name,by decide,Tryz.func313.trans (congrArg some (by kernel_rfl))⟩
 f17:=⟨Tryz.f314.name,by decide,Tryz.func314.trans (congrArg some (by kernel_rfl))⟩
 f18:=⟨Tryz.f315.name,by decide,Tryz.func315.trans (congrArg some (by kernel_rfl))⟩
 f19:=Tryz.func225.trans (congrArg some (by kernel_rfl))
 f20:=Tryz.func226.trans (congrArg some (by kernel_rfl))
 f30:=⟨Tryz.f325.name,by decide,Tryz.func325.trans (congrArg some (by kernel_rfl))⟩
 f31:=Tryz.func277.trans (congrArg some (by kernel_rfl))
 f32:=Tryz.func278.trans (congrArg some (by kernel_rfl))
 f33:=⟨Tryz.f326.name,by decide,Tryz.func326.trans (congrArg some (by kernel_rfl))⟩
 f34:=⟨Tryz.f327.name,by decide,Tryz.func327.trans (congrArg some (by kernel_rfl))⟩
 f35:=⟨Tryz.f328.name,by decide,Tryz.func328.trans (congrArg some (by kernel_rfl))⟩
 f40:=⟨Tryz.f331.name,by decide,Tryz.func331.trans (congrArg some (by kernel_rfl))⟩
 t0:=Tryz.underlying0
 a0:=Tryz.isAgg0
 z0:=Tryz.sizeOf0
 v0:=Tryz.zeroValue0
 t3:=qw
 a3:=Tryz.isAgg3
 z3:=Tryz.sizeOf3
 v3:=qJ
 t4:=Tryz.underlying4
 a4:=Tryz.isAgg4
 z4:=Tryz.sizeOf4
 v4:=Tryz.zeroValue4
 t5:=Tryz.underlying5
 a5:=Tryz.isAgg5
 z5:=Tryz.sizeOf5
 v5:=Tryz.zeroValue5
 t9:=Tryz.underlying9
 a9:=Tryz.isAgg9
 z9:=Tryz.sizeOf9
 v9:=Tryz.zeroValue9
 t22:=Tryz.underlying71
 a22:=Tryz.isAgg71
 z22:=Tryz.sizeOf71
 v22:=Tryz.zeroValue71
 t23:=Tryz.underlying71
 a23:=Tryz.isAgg71
 z23:=Tryz.sizeOf71
 v23:=Tryz.zeroValue71
 t25:=qw
 a25:=Tryz.isAgg3
 z25:=Tryz.sizeOf3
 v25:=qJ
 t32:=Tryz.underlying84
 a32:=Tryz.isAgg84
 z32:=Tryz.sizeOf84
 v32:=Tryz.zeroValue84
 t35:=Tryz.underlying286
 a35:=Tryz.isAgg286
 z35:=Tryz.sizeOf286
 v35:=Tryz.zeroValue286
 t36:=Tryz.underlying287
 a36:=Tryz.isAgg287
 z36:=Tryz.sizeOf287
 v36:=Tryz.zeroValue287
 t41:=Tryz.underlying126
 a41:=Tryz.isAgg126
 z41:=Tryz.sizeOf126
 v41:=Tryz.zeroValue126
 t44:=Tryz.underlying261
 a44:=Tryz.isAgg261
 z44:=Tryz.sizeOf261
 v44:=Tryz.zeroValue261
 t46:=Tryz.underlying54
 a46:=Tryz.isAgg54
 z46:=Tryz.sizeOf54
 v46:=Tryz.zeroValue54
 t53:=Tryz.underlying332
 a53:=Tryz.isAgg332
 z53:=Tryz.sizeOf332
 v53:=Tryz.zeroValue332
 t57:=Tryz.underlying336
 a57:=Tryz.isAgg336
 z57:=Tryz.sizeOf336
 v57:=Tryz.zeroValue336
 t63:=Tryz.underlying356
 a63:=Tryz.isAgg356
 z63:=Tryz.sizeOf356
 v63:=Tryz.zeroValue356
 t64:=Tryz.underlying149
 a64:=Tryz.isAgg149
 z64:=Tryz.sizeOf149
 v64:=Tryz.zeroValue149 }
end Go.Proofs
namespace Go.Proofs.YteccmcpaheepcaaGreatDoor
open Go.RowKit Abs Go.Maps Go.Sort Go.Shelf
theorem sortsA(m:Nat):AnyZI.SortsIn qd Tryz.sortedA_ren Fence.wide m:=
 ⟨fun blk off cap ss W hH hblk hsz=>callsIn_wide.2 (AnyM.slices_Sort_int Tryz.sortA blk off cap ss W hH hblk hsz),
  fun p cap W=>callsIn_wide.2 (AnyM.slices_Sort_int_none Tryz.sortA p cap W)⟩
theorem unsync_world{H:Type}(pb po b nn:Nat)(D0:DataW H)(R:Value→Option (DataW H×List MemPlace))(w:World)(hp:w.cell? ⟨pb,po+1,none⟩=some (.map (some b)))(hown:w.ownsMap qd 3 R b nn D0)(hmax:Maps.size D0≤maxLen)(hbytes:Maps.size D0*8≤140737488355328):
 Calls qd 82 #[.pointer (some ⟨pb,po,none⟩)] w fun e w'=>∃(v:Value)(ss:List Int),e=.returned v∧ss.Perm (intKeys D0)∧
  w'.ownsRow w.heap.size 3 1 v ss.length ((ss.mergeSort (fun x y=>decide (x≤y))).map Go.encZ)∧(v=.slice none 0 0↔ss=[])∧Below w.heap.size w w':=by
 refine(callsIn_wide (n:=6)).1 ?_
 have hbl:=hown.lt
 have hseq:SeqGives Fence.wide 2 qd 243 #[.pointer (some ⟨w.heap.size,0,none⟩)] Go.encZ (fun ss=>ss.Perm (intKeys D0)) (Maps.size D0) (w.alloc (.cells #[.map (some b)] 90)):=
  AnyZI.keys_gives (ρ:=Tryz.keysA_ren) { Tryz.keysA with } Fence.wide _ trivial rfl (by omega) w.heap.size b nn D0 _ (by simp) (by simp) (by
   obtain⟨es,clock,hb,Ft,hs,hD⟩:=hown
   exact⟨es,clock,(Below.heap_alloc _ _ b hbl).trans hb,Ft,hs,hD⟩)
 have cK:∀mb W,CallsIn Fence.wide 5 qd 167 #[.map mb] W fun e w'=>e=.returned (.func (.func 243) #[] #[.pointer (some ⟨W.heap.size,0,none⟩)])∧w'=W.alloc (.cells #[.map mb] 90):=fun mb W=>AnyZI.keys_in Tryz.keysA Fence.wide 5 trivial rfl mb W
 have cS:=AnyZI.sorted_in Tryz.sortedA Fence.wide 5 trivial trivial trivial trivial rfl (by omega) (sortsA _) (enters_of Tryz.func242 (by kernel_rfl) rfl) 243 #[.pointer (some ⟨w.heap.size,0,none⟩)] trivial (enters_of Tryz.func243 (by kernel_rfl) rfl) _ _ hmax hbytes _ hseq
 change CallsIn _ _ qd 166 _ _ _ at cS
 have hfK:Fence.wide.fn 167:=trivial
 have hfS:Fence.wide.fn 166:=trivial
 refine callsIn_of_wp Tryz.func82 rfl trivial ?_ rfl
 simp only[Tryz.ntmps82,List.size_toArray,qE,qx,yV,yY,Array.replicate_succ,Array.replicate_zero,List.push_toArray,List.append_toArray,qB,List.cons_append]
 gi_wp2_with (first
  |(gi_at_call 167;refine(cK _ _).mono ?_;rintro e w' ⟨rfl,rfl⟩)
  |(gi_at_call 166;refine cS.mono ?_;rintro e w' ⟨v,ss,rfl,hS,hrow,hnil,hb⟩))
 go_ret
 exact⟨v,ss,rfl,hS,ownsRow_base_a hrow (by simp),hnil,((Below.refl _ w).alloc (qh _) _).trans (hb.mono (by simp))⟩
def encI(x:Nat):List Value:=[.int .i64 (x:Nat)]
def rdAny(_:Value):Option (DataW Unit×List MemPlace):=some (.nil,[])
theorem key_int(x:Nat)(hx:x≤1024):keyOf qd 3 (.int .i64 (x:Nat))=some (.int .i64 (x:Nat)):=by
 have hw:(Lit.int .i64 ((x:Nat):Int)).wf=true:=by
  show(decide (IntKind.i64.min≤((x:Nat):Int))&&decide (((x:Nat):Int)≤IntKind.i64.max))=true
  rw[Bool.and_eq_true]
  exact⟨decide_eq_true (by show(-9223372036854775808:Int)≤_;omega),decide_eq_true (by show _≤(9223372036854775807:Int);omega)⟩
 simp only[keyOf,qw,mapKey,hw]
 rfl
theorem ents_read{d:Dsk}(hok:d.Ok):∀e∈QT d.last,∃y,WideElems.rd qd 3 rdAny e=some y:=fun e he=>by
 obtain⟨x,hx,rfl⟩:=List.mem_map.1 he
 have hn:=hok.n
 exact⟨_,WideElems.rd_mk (key_int x.1 (by have:=(hok.within x hx).1;omega)) rfl⟩
theorem ents_keys{d:Dsk}(hok:d.Ok):((QT d.last).map (WideElems.rg qd 3 rdAny)).map (fun p=>Go.intOf p.1)=(d.last.map (·.1)).map fun x:Nat=>(x:Int):=by
 unfold QT
 rw[qK,qK,qK]
 refine List.map_congr_left fun x hx=>?_
 have hn:=hok.n
 have:=WideElems.rg_of (WideElems.rd_mk (P:=qd) (k:=3) (R:=rdAny) (val:=.string (str x.2.1)) (born:=x.2.2) (key_int x.1 (by have:=(hok.within x hx).1;omega)) rfl)
 simp only[Function.comp]
 rw[this]
 rfl
theorem keys_perm{d:Dsk}(hok:d.Ok):(d.last.map (·.1)).Perm (Je d):=by
 refine(List.perm_ext_iff_of_nodup hok.keys (qo.filter _ List.nodup_range)).2 fun i=>?_
 rw[List.mem_filter,List.mem_range,List.mem_map]
 constructor
 ·rintro⟨x,hx,rfl⟩
  refine⟨(hok.within x hx).1,?_⟩
  unfold Jr
  rw[Option.isSome_map,List.find?_isSome]
  exact⟨x,hx,by simp⟩
 ·rintro⟨_,h⟩
  unfold Jr at h
  rw[Option.isSome_map,List.find?_isSome]at h
  obtain⟨x,hx,he⟩:=h
  exact⟨x,hx,by simpa using he⟩
theorem unsynced_rise(d:Dsk):((Je d).map fun x:Nat=>(x:Int)).Pairwise fun x y=>decide (x≤y)=true:=by
 rw[List.pairwise_map]
 refine qo.imp (R:=fun a b=>a<b) (fun {a b} h=>decide_eq_true (by omega)) ?_
 exact qo.filter _ List.pairwise_lt_range
theorem unsync_spec(M:Mem)(p q g:Nat)(d:Dsk)(hd:DskAt M p q g d):
 Abs.Spec qd 82 [dp p] M fun u M'=>OwnL encI 1 M.size M' u (Je d)∧More M M':=by
 intro ι w ys hy hr
 obtain⟨y,rfl⟩:∃y,ys=[y]:=by
  have:=hy.1
  match ys,this with
  | [y],_=>exact⟨y,rfl⟩
 have hv:=hy.2 0 _ y rfl rfl
 cases hv
 obtain⟨s,hrow⟩:=hd.row
 obtain⟨C,e,fz,hC,hsz,_,hlen,XO,_⟩:=hr.at' p false s _ hrow
 obtain⟨_,v1,h1,h2⟩:=XO 1 (.map (some q)) rfl
 cases h2
 obtain⟨hmap,_,_⟩:=hr.oth q _ hd.kv
 have hn:=hd.ok.n
 have hll:d.last.length≤1024:=by
  have h:=(keys_perm hd.ok).length_eq
  rw[qr]at h
  have:(Je d).length≤1024:=Nat.le_trans (List.length_filter_le _ _) (by rw[List.length_range];omega)
  omega
 have hel:(QT d.last).length≤1024:=by unfold QT;rw[qr];exact hll
 have hown:w.ownsMap qd 3 rdAny (ι q).blk 1024 (.map (((QT d.last).map (WideElems.rg qd 3 rdAny)).foldr DataW.insert [])):=by
  refine⟨_,_,hmap,⟨by simp[maxLen];omega,⟨?_,?_,?_⟩,by simpa using ents_read hd.ok⟩,by simpa using hel,by simp⟩
  ·intro x hx
   simp only[List.toList_toArray]at hx
   obtain⟨z,hz,rfl⟩:=List.mem_map.1 hx
   exact hd.ok.clock z hz
  ·simpa[QT,Function.comp_def]using hd.ok.born
  ·have:((d.last.map (·.1)).map fun n:Nat=>Value.int .i64 (n:Nat)).Nodup:=qo.map _ (fun a b h e=>h (by injection e with _ e;omega)) hd.ok.keys
   rw[qK]at this
   simpa[QT,Function.comp_def]using this
 have hsz2:Maps.size (DataW.map (((QT d.last).map (WideElems.rg qd 3 rdAny)).foldr DataW.insert []))=(QT d.last).length:=by
  show(((QT d.last).map (WideElems.rg qd 3 rdAny)).foldr DataW.insert []).length=_
  rw[(WideShapes.sorted_perm _).length_eq,qr]
 refine(unsync_world (ι p).blk ((ι p).base+0) (ι q).blk 1024 _ rdAny w (by rw[Qi hC];exact h1) hown (by rw[hsz2];unfold maxLen;omega) (by rw[hsz2];omega)).mono ?_
 rintro e w' ⟨v,ss,rfl,hperm,hrow',hnil,hb⟩
 have hp2:ss.Perm ((Je d).map fun x:Nat=>(x:Int)):=by
  refine hperm.trans ?_
  show(List.map (fun p=>Go.intOf p.1) (((QT d.last).map (WideElems.rg qd 3 rdAny)).foldr DataW.insert [])).Perm _
  refine((WideShapes.sorted_perm _).map _).trans ?_
  rw[ents_keys hd.ok]
  exact(keys_perm hd.ok).map _
 have hsort:(ss.mergeSort fun x y=>decide (x≤y))=(Je d).map fun x:Nat=>(x:Int):=
  List.Perm.eq_of_pairwise (le:=fun x y:Int=>decide (x≤y)=true) (fun a b _ _ h1 h2=>by have h1:=of_decide_eq_true h1;have h2:=of_decide_eq_true h2;omega)
   (List.pairwise_mergeSort (fun a b c h1 h2=>by simp only[decide_eq_true_eq]at*;omega) (fun a b=>by simp only[Bool.or_eq_true,decide_eq_true_eq];omega) ss) (unsynced_rise d) ((List.mergeSort_perm ss _).trans hp2)
 have hl:ss.length=(Je d).length:=by rw[hp2.length_eq,qr]
 rw[hsort]at hrow'
 have hr1:Rel ι M w':=hr.same hb.block
 have st1:Step ι M w ι M w':=⟨hb.os,hb.tape,hb.output,hb.size,fun b h=>h,fun _ _=>rfl,fun g hg _=>hb.block g hg,fun b hb=>.inr ⟨b,hb,rfl⟩⟩
 rcases hrow'.2 with⟨rfl,hz⟩|⟨gb,cap,cur,rfl,hbase,hgb,r1,r2,r3,r4⟩
 ·have:Je d=[]:=qi (by omega)
  exact⟨.slice none 0 0,_,ι,M,⟨.inl ⟨this,rfl⟩,More.refl _⟩,rfl,.nilSlice,hr1,st1⟩
 ·have hcells2:(Je d).flatMap encI=((Je d).map fun x:Nat=>(x:Int)).map Go.encZ:=by
   rw[qK];exact Xm (fun x:Nat=>Value.int .i64 (x:Nat)) _
  have hcl:((Je d).flatMap encI).length=(Je d).length:=by rw[hcells2,qr,qr]
  have hcs:cur.toList.take (Je d).length=(Je d).flatMap encI:=by rw[hcells2,←r4,hl,Nat.mul_one]
  have hlt:∀b,M.get b≠none→(ι b).blk<w.heap.size:=fun b hb=>hr.lt hb
  have hsz3:(Je d).length≤cur.size:=by omega
  have hr2:=hr1.push false ⟨gb,0,cur.size,1⟩ ((Je d).flatMap encI) cur 3 (0,0) hgb rfl (by show 0+_≤_;rw[hcl];omega) (fun i v hi=>by
   rw[←hcs,List.getElem?_take]at hi
   split at hi
   ·rename_i hil
    have hv0:∃n:Int,v=.int .i64 n:=by
     have h5:((Je d).flatMap encI)[i]?=some v:=by rw[←hcs,List.getElem?_take,if_pos hil];exact hi
     rw[hcells2,List.getElem?_map]at h5
     cases h6:((Je d).map fun x:Nat=>(x:Int))[i]? with
     |none=>rw[h6]at h5;cases h5
     |some n=>rw[h6]at h5;exact⟨n,(Option.some.inj h5).symm⟩
    obtain⟨n,rfl⟩:=hv0
    exact⟨rfl,_,by show cur[0+i]?=_;rw[qH,←Array.getElem?_toList];exact hi,.int _ _⟩
   ·cases hi) (fun i _=>by simp) (fun b hb=>by have:=hlt b hb;show(ι b).blk≠gb;omega) (fun _=>Nat.le_trans hr.glob.known.size hbase) .one
  refine⟨.slice (some ⟨M.size,0,none⟩) (Je d).length (Je d).length,_,Qh ι M.size ⟨gb,0,cur.size,1⟩,M.push (.cells false 1 ((Je d).flatMap encI)),⟨?_,More.push _ _⟩,rfl,?_,hr2,?_⟩
  ·by_cases e:Je d=[]
   ·have:=hnil.2 (qi (by rw[hl,e];rfl))
    cases this
   ·exact .inr ⟨e,M.size,qh _,rfl,Mem.get_push_new _ _⟩
  ·have:=VRel.slice (n:=(M.push (.cells false 1 ((Je d).flatMap encI))).Has) (ι:=Qh ι M.size ⟨gb,0,cur.size,1⟩) M.size 0 (Je d).length (Je d).length cap (Mem.has_push_new _ _) (qh _) (.inr ⟨by omega,by rw[JR];show 0+0+cap*1≤cur.size;omega,r2⟩)
   rw[JR]at this
   rw[hl]
   exact this
  ·refine⟨hb.os,hb.tape,hb.output,hb.size,fun _ h=>Mem.has_push _ h,fun b h=>Jw _ (Mem.has_lt h),fun g hg _=>hb.block g hg,fun b ho=>?_⟩
   obtain⟨y,ho,hy⟩:=ho
   rcases Mem.get_push ho with⟨h1,h2⟩|⟨h1,_⟩
   ·exact .inr ⟨b,⟨y,h2,hy⟩,by rw[Jw _ h1]⟩
   ·subst h1
    rw[JR]
    exact .inl hbase
end Go.Proofs.YteccmcpaheepcaaGreatDoor
namespace Go.Proofs.YteccmcpaheepcaaGreatDoor
open Go.RowKit Abs
def Qt(d:Dsk)(bits:Int)(t:Nat):List (List UInt8):=d.old.mapIdx fun i o=>if(Je d).idxOf i<t∧bitOf bits ((Je d).idxOf i)=true then(Jr d.last i).getD o else o
theorem Xj(d:Dsk)(bits:Int)(t:Nat):(Qt d bits t).length=d.old.length:=by simp[Qt]
theorem crashOld_zero(d:Dsk)(bits:Int):Qt d bits 0=d.old:=by
 unfold Qt
 apply qy
 intro i
 rw[qj]
 cases d.old[i]?<;>simp
theorem unsynced_nodup(d:Dsk):(Je d).Nodup:=qo.filter _ List.nodup_range
theorem unsynced_mem{d:Dsk}{i:Nat}:i∈Je d↔i<d.old.length∧(Jr d.last i).isSome=true:=by
 unfold Je
 rw[List.mem_filter,List.mem_range]
theorem idxOf_at{d:Dsk}{i t:Nat}(h:(Je d)[t]?=some i):(Je d).idxOf i=t:=by
 obtain⟨ht,rfl⟩:=qf.1 h
 exact(unsynced_nodup d).idxOf_getElem t ht
theorem crashOld_all(d:Dsk)(bits:Int):Qt d bits (Je d).length=(d.crash bits).old:=by
 unfold Qt Dsk.crash
 simp only
 apply qy
 intro i
 rw[qj,qj]
 cases ho:d.old[i]? with
 |none=>rfl
 |some o=>
  simp only[qF]
  by_cases hm:i∈Je d
  ·have:=List.idxOf_lt_length_iff.2 hm
   simp[this]
  ·have hn:Jr d.last i=none:=by
    cases hl:Jr d.last i with
    |none=>rfl
    |some s=>exact absurd (unsynced_mem.2 ⟨(qf.1 ho).1,by rw[hl];rfl⟩) hm
   rw[hn];simp
theorem crashOld_succ{d:Dsk}{bits:Int}{t i:Nat}(h:(Je d)[t]?=some i):Qt d bits (t+1)=if bitOf bits t=true then(Qt d bits t).set i ((Jr d.last i).getD [])else Qt d bits t:=by
 have hi:=idxOf_at h
 have hm:=unsynced_mem.1 (qk h)
 have other:∀j,j≠i→((Je d).idxOf j<t+1↔(Je d).idxOf j<t∨(Je d).idxOf j=t):=fun j _=>by omega
 have ne:∀j,j≠i→(Je d).idxOf j≠t:=fun j hj e=>by
  have ht:=(qf.1 h).1
  have:=List.getElem_idxOf (x:=j) (xs:=Je d) (by rw[e];exact ht)
  apply hj
  rw[←this]
  obtain⟨h1,h2⟩:=qf.1 h
  rw[←h2]
  congr 1
 obtain⟨s,hs⟩:=Option.isSome_iff_exists.1 hm.2
 split
 ·rename_i hb
  apply qy
  intro j
  rw[List.getElem?_set,Xj]
  unfold Qt
  rw[qj,qj]
  by_cases e:i=j
  ·subst e
   rw[if_pos rfl,if_pos hm.1,qD hm.1]
   simp[hi,hb,hs]
  ·rw[if_neg e]
   cases d.old[j]? with
   |none=>rfl
   |some o=>
    have:=ne j (Ne.symm e)
    simp only[qF]
    congr 2
    rw[eq_iff_iff]
    constructor
    ·rintro⟨h1,h2⟩;exact⟨by omega,h2⟩
    ·rintro⟨h1,h2⟩;exact⟨by omega,h2⟩
 ·rename_i hb
  unfold Qt
  apply qy
  intro j
  rw[qj,qj]
  cases d.old[j]? with
  |none=>rfl
  |some o=>
   simp only[qF]
   congr 2
   rw[eq_iff_iff]
   by_cases e:j=i
   ·subst e
    rw[hi]
    constructor
    ·rintro⟨_,h2⟩;exact absurd h2 hb
    ·rintro⟨h1,_⟩;omega
   ·have:=ne j e
    constructor
    ·rintro⟨h1,h2⟩;exact⟨by omega,h2⟩
    ·rintro⟨h1,h2⟩;exact⟨by omega,h2⟩
theorem crashOld_size{d:Dsk}(hok:d.Ok)(bits:Int)(t:Nat):∀s∈Qt d bits t,s.length=256:=fun s hs=>by
 obtain⟨i,hi⟩:=qI hs
 unfold Qt at hi
 rw[qj]at hi
 cases ho:d.old[i]? with
 |none=>rw[ho]at hi;cases hi
 |some o=>
  rw[ho]at hi
  have e:=Option.some.inj hi
  have h256:=hok.size o (qk ho)
  simp only at e
  split at e
  ·rw[←e]
   cases hl:Jr d.last i with
   |none=>exact h256
   |some x=>
    unfold Jr at hl
    obtain⟨y,hy,rfl⟩:=Option.map_eq_some_iff.1 hl
    exact(hok.within y (List.mem_of_find?_eq_some hy)).2
  ·rw[←e];exact h256
theorem crashOld_ok{d:Dsk}(hok:d.Ok)(bits:Int)(t:Nat):({ d with old:=Qt d bits t }:Dsk).Ok:=
 ⟨by simp only[Xj];exact hok.n,by simp only[Xj];exact hok.pos,crashOld_size hok bits t,hok.keys,hok.born,hok.clock,fun x hx=>by simp only[Xj];exact hok.within x hx,hok.fuse,trivial⟩
theorem look1_dsk{get:Nat→Option Blk}{q:Nat}{r:Bool}{L:QX}{c:Nat}(h:get q=some (.kv r (QT L) c))(i:Nat):
 Zz qd get 90 (.map (some q)) (.int .i64 (i:Nat)) false=some (.string (str ((Jr L i).getD []))):=by
 have hi:qd.underlying 3=some (.int .i64):=qw
 have hs:qd.info? 9=some Tryz.t9:=Zp
 have hz:Tryz.t9.zero=some (.string ⟨#[]⟩):=rfl
 unfold Zz aFind aKV
 rw[kt_map]
 simp only[hs,hz,flat,if_true,h,hi,aKey,decide_true]
 rcases Vt i L 0 with⟨h1,h2⟩|⟨j,x,h1,_,_,h2⟩
 ·rw[h1,h2];rfl
 ·rw[h1,h2];rfl
theorem i64_and1(n:Int):bits .and .i64 n 1=n%2:=by
 have h127:(BitVec.ofInt 64 1).toNat=2^1-1:=by decide
 have key:(BitVec.ofInt 64 n&&&BitVec.ofInt 64 1).toNat=(n%((2^64:Nat):Int)).toNat%2^1:=by
  rw[BitVec.toNat_and,BitVec.toNat_ofInt,h127,Nat.and_two_pow_sub_one_eq_mod]
 show IntKind.i64.wrap ((BitVec.ofInt 64 n&&&BitVec.ofInt 64 1).toNat:Nat)=n%2
 rw[key,IntKind.wrap_i64]
 omega
theorem crash_spec(M:Mem)(p q g:Nat)(d:Dsk)(hd:DskAt M p q g d)(b:Int):
 Abs.Spec qd 32 [dp p,.int .i64 b] M fun u M'=>u=.tuple #[]∧DskAt M' p q g (d.crash b)∧Only [p,q,g] M M'∧M.size≤M'.size:=by
 have hdp:dp p=.pointer (some ⟨p,0,none⟩):=rfl
 have pl:p<M.size:=by obtain⟨s,h⟩:=hd.row;exact Mem.get_lt h
 have ql:=Mem.get_lt hd.kv
 have gl:=Mem.get_lt hd.old
 have hn:=hd.ok.n
 refine WM Tryz.func32 Tryz.results32 Tryz.ntmps32 fun _=>?_
 refine J0 (J0 (R1 @hdp ?_))
 refine CF (J3 ?_)
 refine S0 ?_
 refine QR (fun f M'=>f=[(0,.pointer (some ⟨p,0,none⟩))]∧DskAt M' p q g { d with old:=(d.crash b).old }∧Only [g] M M'∧M.size≤M'.size) ?_ ?_
 ·refine J0 (R0 ?_)
  refine⟨by kernel_rfl,_,unsync_spec M p q g d hd,?_⟩
  rintro V M1 ⟨hown,mo⟩
  obtain⟨a,c,rfl⟩:=hown.len
  have s1:=mo.size
  refine S0 ?_
  refine J8 (Jt (fun j f M'=>∃t:Nat,j=(Je d).length-t∧f=[(0,.pointer (some ⟨p,0,none⟩)),(1,.int .i64 b),(9,.slice a (Je d).length c),(10,.int .i64 ((Je d).length:Nat)),(11,.int .i64 (t:Nat))]∧t≤(Je d).length∧
   DskAt M' p q g { d with old:=Qt d b t }∧Only [g] M1 M'∧M'.size=M1.size) (Je d).length ?_ ?_)
  ·refine JK [0,1,9,10,11] ?_
   exact⟨M1,Thin.refl _,0,rfl,rfl,by omega,by rw[crashOld_zero];exact hd.same mo.get,Only.refl _ _,rfl⟩
  ·rintro j f M' ⟨t,rfl,rfl,ht,hat,ho,hsz⟩
   refine J0 (R0 ?_)
   refine J0 (CC (decide ((t:Int)<((Je d).length:Int))) (fun hq=>J3 ?_) (fun hq=>Jp ?_))
   ·have hq:=of_decide_eq_true hq
    obtain⟨i,hi⟩:∃i,(Je d)[t]?=some i:=⟨_,qD (by omega)⟩
    have hm:=unsynced_mem.1 (qk hi)
    have hsc:=crashOld_succ (bits:=b) hi
    obtain⟨gL,rfl,hgL,gV⟩:=hown.at hi
    have gV':=ho gL _ (by simp;omega) gV
    have z0:(0:Int)≤(t:Int):=by omega
    have cI:((Je d).flatMap encI)[t]?=some (.int .i64 (i:Nat)):=VY (f:=fun x:Nat=>Value.int .i64 (x:Nat)) hi false 1
    have hll:(Je d).length≤1024:=Nat.le_trans (List.length_filter_le _ _) (by rw[List.length_range];omega)
    have w1:IntKind.i64.wrap ((t:Int)+1)=((t+1:Nat):Int):=by rw[Xl (by omega) (by omega)];omega
    obtain⟨s,hr⟩:=hat.row
    unfold dskC at hr
    simp only at hr
    have gI0:(0:Int)≤(i:Int):=by omega
    have gI1:(i:Int)<((Qt d b t).length:Int):=by rw[Xj];have:=hm.1;omega
    obtain⟨sL,hsL⟩:∃sL,sL=(Jr d.last i).getD []:=⟨_,rfl⟩
    have hlk:=look1_dsk (get:=M'.get) hat.kv i
    simp only at hlk
    rw[←hsL]at hlk hsc
    refine S0 ?_
    refine QR (fun f M2=>f=[(0,.pointer (some ⟨p,0,none⟩)),(1,.int .i64 b),(9,.slice (some ⟨gL,0,none⟩) (Je d).length c),(10,.int .i64 ((Je d).length:Nat)),(11,.int .i64 (t:Nat))]∧
     DskAt M2 p q g { d with old:=Qt d b (t+1) }∧Only [g] M1 M2∧M2.size=M1.size) ?_ ?_
    ·refine J8 (J0 (R6 @z0 @hq @and_self @gV' @qu @cI ?_))
     refine J0 (R0 ?_)
     have tm:(t:Int).tmod 62=((t%62:Nat):Int):=rfl
     have hmn:min (((t%62:Nat):Int)).toNat IntKind.i64.bits=t%62:=by
      show min (((t%62:Nat):Int)).toNat 64=t%62
      rw[qu];omega
     have hbit:(bits .and .i64 (b.fdiv (2^(t%62))) 1==1)=bitOf b t:=by
      rw[i64_and1,Int.fdiv_eq_ediv_of_nonneg _ (Int.pow_nonneg (by decide))]
      unfold bitOf
      rw[Bool.eq_iff_iff,beq_iff_eq,decide_eq_true_eq]
     refine⟨by rw[tm];omega,?_⟩
     rw[tm,hmn,hbit]
     refine CC (bitOf b t) (fun hq=>QN hmix 11 (by kernel_rfl) (by kernel_rfl) ?_) (fun hq=>J3 ?_)
     ·rw[if_pos hq]at hsc
      have hput:Ji 1 M' g i [.string (str sL)] (some (.cells false 1 ((Qt d b t).map fun s=>.string (str s))))=some (M'.set g (some (.cells false 1 ((Qt d b (t+1)).map fun s=>.string (str s))))):=by
       simp only[Ji]
       rw[if_pos ⟨rfl,by simp only[qE,qx,qr,Xj];have:=hm.1;omega,rfl⟩,hsc]
       simp only[setL,List.map_set]
      have aggS:(Value.string (str sL)).cells.toList=[.string (str sL)]:=rfl
      have hold:=hat.old
      simp only at hold
      simp only[zZ,reduceIte,yQ,yW,yX,yZ,yJ,yK,yV,zDk,Jc,Jb,Ja,J9,XQ,hdp,hr,gI0,gI1,and_self,hlk,hold,qu,aggS,hput]
      refine JK [0,1,9,10,11] ?_
      refine⟨_,Thin.refl _,⟨crashOld_ok hd.ok b (t+1),⟨s,?_⟩,?_,Mem.get_set_same hold _,hd.pq,hd.pg,hd.qg⟩,ho.trans (Only.set (by simp) _),by rw[Mem.size_set];exact hsz⟩
      ·rw[Mem.get_set_ne hd.pg.symm,hr]
       simp[dskC,Xj]
      ·rw[Mem.get_set_ne hd.qg.symm];exact hat.kv
     ·rw[if_neg (by rw[hq];decide)]at hsc
      refine JK [0,1,9,10,11] ?_
      exact⟨M',Thin.refl _,by rw[hsc];exact hat,ho,hsz⟩
    ·rintro f M2 ⟨rfl,hat2,ho2,hsz2⟩
     refine R1 @w1 ?_
     refine JK [0,1,9,10,11] ?_
     exact⟨_,Thin.refl _,(Je d).length-(t+1),⟨t+1,rfl,rfl,by omega,hat2,ho2,hsz2⟩,by omega⟩
   ·have hq:=of_decide_eq_false hq
    have hte:t=(Je d).length:=by omega
    subst hte
    rw[crashOld_all]at hat
    refine S0 ?_
    refine JK [0] ?_
    exact⟨M',Thin.refl _,hat,(fun b x hb hx=>ho b x hb (mo.get b x hx)),by omega⟩
 ·rintro f M2 ⟨rfl,hat,ho,hsz⟩
  obtain⟨s,hr⟩:=hat.row
  unfold dskC at hr
  simp only at hr
  have hkv:=hat.kv
  simp only at hkv
  have hcl:=clear_dsk (m:=M2) hkv
  obtain⟨M3,hM3⟩:∃M3,M3=M2.set q (some (.kv false (QT []) d.clock)):=⟨_,rfl⟩
  have r3:=hr
  rw[←Mem.get_set_ne (m:=M2) (o:=some (.kv false (QT []) d.clock)) hd.pq.symm,←hM3]at r3
  have pF:∀(M0:Mem) a b f x,Ji 1 M0 p 2 [.int .i64 (-1)] (some (.cells false s [a,b,f,x]))=some (M0.set p (some (.cells false s [a,b,.int .i64 (-1),x]))):=fun _ _ _ _ _=>rfl
  have pD:∀(M0:Mem) a b f x,Ji 1 M0 p 3 [.bool false] (some (.cells false s [a,b,f,x]))=some (M0.set p (some (.cells false s [a,b,f,.bool false]))):=fun _ _ _ _ _=>rfl
  have aI:(Value.int .i64 (-1)).cells.toList=[.int .i64 (-1)]:=rfl
  have aB:(Value.bool false).cells.toList=[.bool false]:=rfl
  have r4:=Mem.get_set_same r3 (some (.cells false s [.slice (some ⟨g,0,none⟩) (d.crash b).old.length (d.crash b).old.length,.map (some q),.int .i64 (-1),.bool d.dead]))
  refine J0 (R2 @hr @hcl ?_)
  rw[←hM3]
  refine R6 @r3 @aI @pF @r4 @aB @pD ?_
  have hold:=hat.old
  simp only at hold
  simp only[zZ,reduceIte,yQ,yW,yX,yZ,yJ,yK,yV,zDk,Jc,Jb,Ja,J9,XQ,mEnd,sAnswer,sAnswer.sRes]
  refine⟨_,Thin.refl _,⟨Dsk.crash_ok hd.ok b,⟨s,Mem.get_set_same r4 _⟩,?_,?_,hd.pq,hd.pg,hd.qg⟩,fun x y hx hy=>?_,by rw[Mem.size_set,Mem.size_set,hM3,Mem.size_set];exact hsz⟩
  ·rw[Mem.get_set_ne hd.pq,Mem.get_set_ne hd.pq,hM3]
   exact Mem.get_set_same hkv _
  ·rw[Mem.get_set_ne hd.pg,Mem.get_set_ne hd.pg,hM3,Mem.get_set_ne hd.qg]
   exact hold
  ·simp at hx
   rw[Mem.get_set_ne (Ne.symm hx.1),Mem.get_set_ne (Ne.symm hx.1),hM3,Mem.get_set_ne (Ne.symm hx.2.1)]
   exact ho x y (by simp;exact hx.2.2) hy
def freeOf(at' n:Int)(x:Ext):Prop:=x.base+x.head.n≤at'∨n≤x.base-at'
theorem freeFor_iff(at' n:Int)(l:List Ext):freeFor at' n l=true↔∀x∈l,freeOf at' n x:=by
 unfold freeFor freeOf
 rw[List.all_eq_true]
 refine forall_congr' fun x=>imp_congr_right fun _=>?_
 by_cases h1:at'<x.base+x.head.n<;>by_cases h2:x.base-at'<n<;>simp[h1,h2]<;>omega
def Xe(n:Int):Int→List Ext→Int
 |at',[]=>at'
 |at',x::r=>if n≤x.base-at' then at' else Xe n (max at' (x.base+x.head.n)) r
theorem greedy_spec(n lo:Int)(hn:1≤n)(l:List Ext):∀(r pre:List Ext)(a:Int),l=pre++r→r.Pairwise (fun x y=>x.base≤y.base)→lo≤a→(∀x∈pre,x.base+x.head.n≤a)→(∀b,lo≤b→b<a→∃x∈l,¬freeOf b n x)→
 lo≤Xe n a r∧(∀x∈l,freeOf (Xe n a r) n x)∧∀b,lo≤b→b<Xe n a r→∃x∈l,¬freeOf b n x:=by
 intro r
 induction r with
 |nil=>
  intro pre a hl _ hlo hpre hbl
  rw[Xe]
  refine⟨hlo,fun x hx=>?_,hbl⟩
  rw[hl,qp]at hx
  exact .inl (hpre x hx)
 |cons x r ih=>
  intro pre a hl hso hlo hpre hbl
  rw[List.pairwise_cons]at hso
  rw[Xe]
  by_cases h:n≤x.base-a
  ·rw[if_pos h]
   refine⟨hlo,fun y hy=>?_,hbl⟩
   rw[hl,qG,qt]at hy
   rcases hy with hy|rfl|hy
   ·exact .inl (hpre y hy)
   ·exact .inr h
   ·have:=hso.1 y hy
    exact .inr (by omega)
  ·rw[if_neg h]
   refine ih (pre++[x]) (max a (x.base+x.head.n)) (by rw[hl];simp) hso.2 (by omega) (fun y hy=>?_) (fun b hb hba=>?_)
   ·rw[qG,qL]at hy
    rcases hy with hy|rfl
    ·have:=hpre y hy;omega
    ·omega
   ·by_cases e:b<a
    ·exact hbl b hb e
    ·refine⟨x,by rw[hl];simp,fun hf=>?_⟩
     unfold freeOf at hf
     omega
theorem roomGo_spec(n:Int)(l:List Ext)(a:Int)(ha:∀x∈l,freeOf a n x):∀(k:Nat)(lo:Int),lo≤a→(∀b,lo≤b→b<a→∃x∈l,¬freeOf b n x)→roomGo n l k lo=if a<lo+k then some a else none
 |0,lo,h,_=>by rw[roomGo,if_neg (by omega)]
 |k+1,lo,h,hb=>by
  rw[roomGo]
  by_cases e:lo=a
  ·subst e
   rw[if_pos ((freeFor_iff _ _ _).2 ha),if_pos (by omega)]
  ·have hnf:¬freeFor lo n l=true:=fun hf=>by
    obtain⟨x,hx,hx2⟩:=hb lo (qq _) (by omega)
    exact hx2 ((freeFor_iff _ _ _).1 hf x hx)
   rw[if_neg hnf,roomGo_spec n l a ha k (lo+1) (by omega) fun b h1 h2=>hb b (by omega) h2]
   by_cases h3:a<lo+1+(k:Int)
   ·rw[if_pos h3,if_pos (by omega)]
   ·rw[if_neg h3,if_neg (by omega)]
theorem roomV_greedy(lo hi n:Int)(l s:List Ext)(hn:1≤n)(h0:0≤lo)(h1:lo≤hi)(hp:∀x,x∈s↔x∈l)(hs:s.Pairwise fun x y=>x.base≤y.base):
 roomV lo hi n l=if n>hi-Xe n lo s then none else some (Xe n lo s):=by
 obtain⟨a1,a2,a3⟩:=greedy_spec n lo hn s s [] lo rfl hs (qq _) (fun x hx=>by cases hx) (fun b h1 h2=>by omega)
 obtain⟨a,ha⟩:∃a,a=Xe n lo s:=⟨_,rfl⟩
 rw[←ha]at a1 a2 a3 ⊢
 unfold roomV
 rw[if_neg (by omega),roomGo_spec n l a (fun x hx=>a2 x ((hp x).2 hx)) _ lo a1 fun b h1 h2=>by
  obtain⟨x,hx,hx2⟩:=a3 b h1 h2
  exact⟨x,(hp x).1 hx,hx2⟩]
 by_cases e:n>hi-a
 ·rw[if_pos e,if_neg (by omega)]
 ·rw[if_neg e,if_pos (by omega)]
end Go.Proofs.YteccmcpaheepcaaGreatDoor
