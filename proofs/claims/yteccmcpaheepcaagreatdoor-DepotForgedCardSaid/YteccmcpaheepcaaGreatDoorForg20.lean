/-
  The walk of depot.Open.
-/
import Derived.Test.YteccmcpaheepcaaGreatDoorForg14
import Derived.Test.YteccmcpaheepcaaGreatDoorForg10
import Derived.Test.YteccmcpaheepcaaGreatDoorForg19
import Derived.Test.YteccmcpaheepcaaGreatDoorForg15
import Derived.Test.YteccmcpaheepcaaGreatDoorForg13
import Derived.Test.YteccmcpaheepcaaGreatDoorForg09
set_option linter.unusedSimpArgs false
set_option linter.unusedVariables false
set_option linter.unusedSectionVars false
set_option linter.unnecessarySimpa false
set_option linter.defProp false
set_option maxRecDepth 100000
set_option maxHeartbeats 16000000
open Nat renaming reduceLT → yQ, reduceEqDiff → yK, reduceAdd → yV, reduceSub → yY, reduceMul → yU
open Int renaming reduceToNat → yW, reduceLE → yX, reduceEq → yZ, reduceLT → yJ
open Go.Proofs.Tryz renaming prog → qc
open List renaming replicate → qd, length_append → qe, length_replicate → qf, append_nil → qh, mem_cons → qi, eq_nil_of_length_eq_zero → qj, getElem?_replicate → qk, getElem?_set_ne → qo, getElem?_eq_some_iff → qq, getElem?_eq_getElem → qr, Pairwise → qt, mem_of_getElem? → qu, length_nil → qw, mem_append → qx, nil_append → qy, mem_singleton → qz
open Nat renaming sub_zero → qm, le_refl → qp
open Int renaming toNat_natCast → qn
namespace Go.Proofs.YteccmcpaheepcaaGreatDoor
open Go.RowKit Abs
def OpenAt(M M':Mem)(p q g:Nat)(v:Value)(X:Dsk×Option Dep×Int):Prop:=match X.2.1 with
 |none=>v=.pointer none∧DskAt M' p q g X.1
 |some D=>∃P,v=.pointer (some ⟨P,0,none⟩)∧M.size≤P∧DepAt M' P p q g X.1 D
theorem open_spec(M:Mem)(p q g:Nat)(d:Dsk)(hd:DskAt M p q g d)(secret:ByteArray)(hsec:secret.size≤140737488355000):
 Abs.Spec qc 19 [dp p,.string secret] M fun u M'=>∃v,u=.tuple #[v,.int .i64 (openD d (Sha.headKey secret.data.toList)).2.2]∧OpenAt M M' p q g v (openD d (Sha.headKey secret.data.toList))∧Only [p,q,g] M M'∧M.size≤M'.size:=by
 obtain⟨key,hkey⟩:∃key,key=Sha.headKey secret.data.toList:=⟨_,rfl⟩
 have hkl:key.length≤1000000:=by rw[hkey,ZK];decide
 rw[←hkey]
 obtain⟨Z,hZ⟩:∃Z,Z=openD d key:=⟨_,rfl⟩
 rw[←hZ]
 unfold openD at hZ
 refine Abs.Spec.walkM Tryz.func19 (by rfl) _ Tryz.results19 _ Tryz.ntmps19 (by simp[dp]) ?_
 intro hc hx k
 have hN:=hd.ok.n
 have hpl:p<M.size:=by obtain⟨s,h⟩:=hd.row;exact Q2 h
 have hql:q<M.size:=Q2 hd.kv
 have hgl0:g<M.size:=Q2 hd.old
 have hdp:dp p=.pointer (some ⟨p,0,none⟩):=rfl
 refine J0 (R0 ?_)
 refine J0 (J0 (R0 ?_))
 refine K0 (dlen_spec M p q g d hd) ?_
 refine CC (decide ((d.old.length:Int)<13)) (fun h=>J0 (J1 ?_)) (fun h=>J4 ?_)
 ·rw[if_pos (by have:=of_decide_eq_true h;omega)]at hZ
  refine S0 ?_
  refine T0 ?_
  subst hZ
  exact⟨M,Thin.refl _,_,rfl,⟨rfl,hd⟩,Only.refl _ _,qp _⟩
 have h13:13≤d.old.length:=by have:=of_decide_eq_false h;omega
 rw[if_neg (by omega)]at hZ
 refine S0 ?_
 refine J0 (R0 ?_)
 refine⟨by kernel_rfl,_,keys_spec secret _ (by omega) (by decide) M,?_⟩
 rintro _ M9 ⟨rfl,e9⟩;replace e9:=e9.symm;subst e9
 have hkv:keysV secret.data.toList (⟨#[]⟩:ByteArray).data.toList=.agg #[.string (str (Sha.encKey secret.data.toList [])),.string (str (Sha.macKey secret.data.toList [])),.string (str key)]:=by rw[hkey];rfl
 rw[hkv]
 have hfld:vField qc 94 (some (.agg #[.string (str (Sha.encKey secret.data.toList [])),.string (str (Sha.macKey secret.data.toList [])),.string (str key)])) 2=some (.string (str key)):=by rfl
 obtain⟨D0,hD0⟩:∃D0,D0=Dep.fresh key:=⟨_,rfl⟩
 have hbd:Qf qc 122 [(0,.pointer (some ⟨p,0,none⟩)),(1,.string (str key))]=some (.agg (JM p D0 (qd 4 (.pointer none)) (qd 8 (.pointer none))).toArray):=by rw[hD0];kernel_rfl
 have hbx:QG qc 122 (.agg (JM p D0 (qd 4 (.pointer none)) (qd 8 (.pointer none))).toArray)=some (.cells false (J6 qc 122) (JM p D0 (qd 4 (.pointer none)) (qd 8 (.pointer none)))):=bx_Dep _ rfl
 generalize J6 qc 122=s1 at hbx
 refine S4 @hfld @hdp @hbd @hbx ?_
 obtain⟨M2,hM2⟩:∃M2,M2=M.push (.cells false s1 (JM p D0 (qd 4 (.pointer none)) (qd 8 (.pointer none)))):=⟨_,rfl⟩
 obtain⟨P,hP⟩:∃P,P=M.size:=⟨_,rfl⟩
 have hg2:M2.get P=some (.cells false s1 (JM p D0 (qd 4 (.pointer none)) (qd 8 (.pointer none)))):=by rw[hM2,hP,Mem.get_push_new]
 have ho2:Only [p,q,g] M M2:=by rw[hM2];exact Only.push _ _ _
 have hs2:M2.size=M.size+1:=by rw[hM2,Mem.size_push]
 rw[←hM2,←hP]
 have hat0:DepAt M2 P p q g d D0:=⟨hd.only (l:=[]) (by rw[hM2];exact Only.push _ _ _) (by simp) (by simp) (by simp),by rw[hD0];exact fresh_ok key _,⟨s1,_,_,hg2,by rw[hD0];exact ptrs_none _ _ _ _,by rw[hD0];exact ptrs_none _ _ _ _⟩,by omega⟩
 have fin:∀M':Mem,Only [P,p,q,g] M2 M'→Only [p,q,g] M M':=fun M' ho b x hb hx=>by
  have:=Mem.get_lt hx
  exact ho b x (by simp at hb ⊢;exact⟨by omega,hb⟩) (ho2 b x hb hx)
 refine J0 (J0 (R0 ?_))
 refine J8 (Jq (fun j f M'=>∃i:Nat,j=8-i∧i≤8∧(d.dead=true→i=0)∧f=[(0,.pointer (some ⟨p,0,none⟩)),(6,.pointer (some ⟨P,0,none⟩)),(29,.int .i64 (i:Nat))]∧
  DepAt M' P p q g d { D0 with kept:=Jw d key i }∧Only [P,p,q,g] M2 M'∧M2.size≤M'.size) 8 ?_ ?_)
 ·refine JK [0,6,29] ?_
  exact⟨M2,Thin.refl _,0,rfl,by omega,fun _=>rfl,rfl,by subst hD0;exact hat0,Only.refl _ _,qp _⟩
 ·rintro j f M' ⟨i,rfl,hi8,hdz,rfl,hat,ho,hss⟩
  refine J0 (R0 ?_)
  refine J0 (CC (decide ((i:Int)<8)) (fun h=>J4 ?_) (fun h=>Jr ?_))
  ·have h:=of_decide_eq_true h
   have hi:i<8:=by omega
   have w1:IntKind.i64.wrap (5+(i:Int))=((5+i:Nat):Int):=by rw[Xx (by omega) (by omega)];omega
   have w2:IntKind.i64.wrap ((i:Int)+1)=((i+1:Nat):Int):=by rw[Xx (by omega) (by omega)];omega
   have hrd:=read_at (d:=d) (i:=5+i) (by omega)
   have hsl:=sector_len hd.ok (i:=5+i) (by omega)
   simp only[zZ,reduceIte,yQ,yW,yX,yZ,yJ,yK,yV]
   refine J0 (J8 (J0 (R0 ?_)))
   refine J0 (R1 @w1 ?_)
   refine⟨by kernel_rfl,_,read_spec M' p q g d hat.dsk ((5+i:Nat):Int),?_⟩
   rintro _ M9 ⟨rfl,e9⟩;replace e9:=e9.symm;subst e9
   rw[hrd]
   cases hdd:d.dead with
   |true=>
    rw[if_pos hdd]at hZ
    have q1:((7:Int) !=0)=true:=rfl
    simp only[if_true,zZ,reduceIte,yQ,yW,yX,yZ,yJ,yK,yV,zDk,Jc,Jd,Ja,J9,XX]
    refine J0 (J0 (R1 @q1 ?_))
    refine CT (J0 (R0 ?_))
    refine T0 ?_
    subst hZ
    exact⟨_,Thin.refl _,_,rfl,⟨rfl,hat.dsk⟩,fin _ ho,by omega⟩
   |false=>
   have q1:((0:Int) !=0)=false:=rfl
   simp only[if_false,Bool.false_eq_true,zZ,reduceIte,yQ,yW,yX,yZ,yJ,yK,yV,zDk,Jc,Jd,Ja,J9,XX]
   refine J0 (J0 (R1 @q1 ?_))
   refine CF (J4 ?_)
   refine S0 ?_
   refine J0 (R0 ?_)
   refine⟨by kernel_rfl,_,ctake_at (d.sector (5+i)) hsl M',?_⟩
   rintro _ M9 ⟨rfl,e9⟩;replace e9:=e9.symm;subst e9
   have hal:Q9 qc 102=some (.cells false (J6 qc 102) noExt.cells):=al_Ext
   generalize J6 qc 102=s2 at hal
   have agg8:∀x:Ext,(Value.agg x.cells.toArray).cells.toList=x.cells:=fun _=>rfl
   have put8:∀(M0:Mem)(b:Nat)(x y:Ext),Jg 8 M0 b 0 y.cells (some (.cells false s2 x.cells))=some (M0.set b (some (.cells false s2 y.cells))):=fun _ _ _ _=>rfl
   have row8:∀(x:Ext),Jp 8 0 (some (.cells false s2 x.cells))=some (.agg x.cells.toArray):=fun _=>rfl
   refine S4 @hal @Mem.get_push_new @agg8 @put8 ?_
   obtain⟨X,hX⟩:∃X,X=Xj (d.sector (5+i)):=⟨_,rfl⟩
   have hst:Jw d key (i+1)=(Jw d key i).set i (keptStep d key (Jw d key i) i):=rfl
   unfold keptStep at hst
   rw[←hX]at hst ⊢
   obtain⟨b4,hb4⟩:∃b,b=M'.size:=⟨_,rfl⟩
   obtain⟨M4,hM4⟩:∃M4,M4=(M'.push (.cells false s2 noExt.cells)).set M'.size (some (.cells false s2 X.1.cells)):=⟨_,rfl⟩
   rw[←hM4,←hb4]
   have g4:M4.get b4=some (.cells false s2 X.1.cells):=by rw[hM4,hb4];exact Mem.get_set_same (Mem.get_push_new _ _) _
   have mo4:More M' M4:=⟨fun b x hb=>by
    have:=Mem.get_lt hb
    rw[hM4,Mem.get_set_ne (by omega),Mem.get_push_old this];exact hb,by rw[hM4,Mem.size_set,Mem.size_push];omega⟩
   have hs4:=mo4.size
   have ho4:Only [P,p,q,g] M2 M4:=fun b x hb hx=>mo4.get _ _ (ho b x hb hx)
   have hat4:=hat.same mo4.get
   cases q2:(X.2==0)with
   |false=>
    have hno:Jw d key (i+1)=Jw d key i:=by
     rw[hst,if_neg (fun h=>by rw[h.1]at q2;cases q2)]
     exact set_same (Ub d key i i (qp _) hi)
    refine J0 (R1 @q2 ?_)
    refine CF (J4 ?_)
    refine S0 ?_
    refine R1 @w2 ?_
    refine JK [0,6,29] ?_
    exact⟨M4,Thin.refl _,8-(i+1),⟨i+1,rfl,by omega,(fun h=>by cases h),rfl,by rw[hno];exact hat4,ho4,by omega⟩,by omega⟩
   |true=>
    have hX0:X.2=0:=by simpa using q2
    have hmx:JA X.1=true:=by rw[hX];exact catTake_may (by rw[←hX];exact hX0)
    refine J0 (R3 @q2 @g4 @row8 ?_)
    refine⟨by kernel_rfl,_,fits_spec P p q g d _ M4 hat4 (by subst hD0;exact hkl) X.1 hmx,?_⟩
    rintro _ M5 ⟨rfl,mo5⟩
    have hs5:=mo5.size
    have g5:=mo5.get _ _ g4
    have ho5:Only [P,p,q,g] M2 M5:=fun b x hb hx=>mo5.get _ _ (ho4 b x hb hx)
    have hat5:=hat4.same mo5.get
    have hfe:VG ({ D0 with kept:=Jw d key i }:Dep).key d.old.length ({ D0 with kept:=Jw d key i }:Dep).places X.1=VG key d.old.length (QF (Jw d key i) []) X.1:=by
     subst hD0
     unfold Dep.places Dep.fresh
     simp only
     rw[places_none]
    rw[hfe]
    refine S0 ?_
    refine CC (VG key d.old.length (QF (Jw d key i) []) X.1) (fun hq=>J1 ?_) (fun hq=>J4 ?_)
    ·rw[if_pos ⟨hX0,hq⟩]at hst
     obtain⟨s5,vo5,vk5,hrow5,ho5r,hk5⟩:=hat5.row
     have l4:vo5.length=4:=by rw[ho5r.len,hat5.ok.opn]
     have l8:vk5.length=8:=by rw[hk5.len,hat5.ok.kept]
     have ln:=VH p { D0 with kept:=Jw d key i } vo5 vk5 l4 l8
     have z0:(0:Int)≤(i:Int):=by omega
     have z8:(i:Int)<((8:Nat):Int):=by omega
     have z8':(i:Int)<8:=by omega
     have hput:Jg 1 M5 P (7+i) [.pointer (some ⟨b4,0,none⟩)] (some (.cells false s5 (JM p { D0 with kept:=Jw d key i } vo5 vk5)))=some (M5.set P (some (.cells false s5 ((JM p { D0 with kept:=Jw d key i } vo5 vk5).set (7+i) (.pointer (some ⟨b4,0,none⟩)))))):=by
      simp only[Jg]
      rw[if_pos ⟨rfl,by show 7+i+1≤(JM p { D0 with kept:=Jw d key i } vo5 vk5).length;omega,rfl⟩]
      rfl
     have nP:b4∉ [P,p,q,g]:=by
      simp only[qi,List.not_mem_nil,or_false]
      omega
     have hfin:=hat5.turnK ho5r hk5 hrow5 i hi (some X.1) (fun y hy=>by cases hy;have:=fits_fitX hq;subst hD0;exact this) (.pointer (some ⟨b4,0,none⟩)) ⟨b4,s2,nP,rfl,g5⟩
     simp only at hfin
     rw[←hst]at hfin
     refine S7 @hrow5 @z0 @z8 @z8' @and_self @qn @hput ?_
     refine R1 @w2 ?_
     refine JK [0,6,29] ?_
     exact⟨_,Thin.refl _,8-(i+1),⟨i+1,rfl,by omega,(fun h=>by cases h),rfl,hfin,ho5.trans (Only.set (by simp) _),by rw[Mem.size_set];omega⟩,by omega⟩
    ·have hno:Jw d key (i+1)=Jw d key i:=by
      rw[hst,if_neg (fun h=>by rw[h.2]at hq;cases hq)]
      exact set_same (Ub d key i i (qp _) hi)
     refine S0 ?_
     refine R1 @w2 ?_
     refine JK [0,6,29] ?_
     exact⟨M5,Thin.refl _,8-(i+1),⟨i+1,rfl,by omega,(fun h=>by cases h),rfl,by rw[hno];exact hat5,ho5,by omega⟩,by omega⟩
  ·have h:=of_decide_eq_false h
   obtain rfl:i=8:=by omega
   have hdd:d.dead=false:=by
    cases hdd:d.dead with
    |false=>rfl
    |true=>have:=hdz hdd;omega
   rw[if_neg (by rw[hdd];decide)]at hZ
   obtain⟨K,hK⟩:∃K,K=Jw d key 8:=⟨_,rfl⟩
   rw[←hK]at hZ hat
   refine S0 ?_
   refine J0 (J0 (R0 ?_))
   refine J8 (Jq (fun j f M'=>∃i:Nat,j=4-i∧i≤4∧f=[(0,.pointer (some ⟨p,0,none⟩)),(6,.pointer (some ⟨P,0,none⟩)),(60,.int .i64 (i:Nat))]∧(Ju key K d i).2.2=0∧(Ju key K d i).1.dead=false∧(Ju key K d i).1.old.length=d.old.length∧
    DepAt M' P p q g (Ju key K d i).1 { D0 with kept:=K,opn:=(Ju key K d i).2.1 }∧Only [P,p,q,g] M2 M'∧M2.size≤M'.size) 4 ?_ ?_)
   ·refine JK [0,6,60] ?_
    exact⟨M',Thin.refl _,0,rfl,by omega,rfl,rfl,hdd,rfl,by subst hD0;exact hat,ho,hss⟩
   ·clear hat ho hss
    rintro j f M' ⟨i,rfl,hi4,rfl,herr,hdi,hli,hat,ho,hss⟩
    refine J0 (R0 ?_)
    obtain⟨di,hdi_⟩:∃di,di=(Ju key K d i).1:=⟨_,rfl⟩
    obtain⟨O,hO⟩:∃O,O=(Ju key K d i).2.1:=⟨_,rfl⟩
    have hup:Ju key K d (i+1)=UR key K di O i:=by
     show(if(Ju key K d i).2.2≠0 then Ju key K d i else UR key K (Ju key K d i).1 (Ju key K d i).2.1 i)=_
     rw[if_neg (by rw[herr];decide),hdi_,hO]
    unfold UR at hup
    refine J0 (CC (decide ((i:Int)<4)) (fun h=>J4 ?_) (fun h=>Jr ?_))
    ·have h:=of_decide_eq_true h
     have hi:i<4:=by omega
     rw[←hdi_]at hdi hli hat
     rw[←hO]at hat
     have w1:IntKind.i64.wrap (1+(i:Int))=((1+i:Nat):Int):=by rw[Xx (by omega) (by omega)];omega
     have w2:IntKind.i64.wrap ((i:Int)+1)=((i+1:Nat):Int):=by rw[Xx (by omega) (by omega)];omega
     have hrd:=read_at (d:=di) (i:=1+i) (by omega)
     rw[if_neg (by rw[hdi];decide)]at hrd
     have hsl:=sector_len hat.dsk.ok (i:=1+i) (by omega)
     simp only[zZ,reduceIte,yQ,yW,yX,yZ,yJ,yK,yV]
     refine J0 (J8 (J0 (R0 ?_)))
     refine J0 (R1 @w1 ?_)
     refine⟨by kernel_rfl,_,read_spec M' p q g di hat.dsk ((1+i:Nat):Int),?_⟩
     rintro _ M9 ⟨rfl,e9⟩;replace e9:=e9.symm;subst e9
     rw[hrd]
     have q1:((0:Int) !=0)=false:=rfl
     refine S0 ?_
     refine J0 (J0 (R1 @q1 ?_))
     refine CF (J4 ?_)
     refine S0 ?_
     refine J0 (R0 ?_)
     refine⟨by kernel_rfl,_,jtake_at (di.sector (1+i)) hsl M',?_⟩
     rintro _ M9 ⟨rfl,e9⟩;replace e9:=e9.symm;subst e9
     have hal:Q9 qc 132=some (.cells false (J6 qc 132) noRec.cells):=al_Rec
     generalize J6 qc 132=s2 at hal
     have agg13:∀x:Rec,(Value.agg x.cells.toArray).cells.toList=x.cells:=fun _=>rfl
     have put13:∀(M0:Mem)(b:Nat)(x y:Rec),Jg 13 M0 b 0 y.cells (some (.cells false s2 x.cells))=some (M0.set b (some (.cells false s2 y.cells))):=fun _ _ _ _=>rfl
     have row8:∀(x:Rec),Jp 8 0 (some (.cells false s2 x.cells))=some (.agg x.x.cells.toArray):=fun _=>rfl
     refine S4 @hal @Mem.get_push_new @agg13 @put13 ?_
     obtain⟨X,hX⟩:∃X,X=QN (di.sector (1+i)):=⟨_,rfl⟩
     rw[←hX]at hup ⊢
     obtain⟨b4,hb4⟩:∃b,b=M'.size:=⟨_,rfl⟩
     obtain⟨M4,hM4⟩:∃M4,M4=(M'.push (.cells false s2 noRec.cells)).set M'.size (some (.cells false s2 X.1.cells)):=⟨_,rfl⟩
     rw[←hM4,←hb4]
     have g4:M4.get b4=some (.cells false s2 X.1.cells):=by rw[hM4,hb4];exact Mem.get_set_same (Mem.get_push_new _ _) _
     have mo4:More M' M4:=⟨fun b x hb=>by
      have:=Mem.get_lt hb
      rw[hM4,Mem.get_set_ne (by omega),Mem.get_push_old this];exact hb,by rw[hM4,Mem.size_set,Mem.size_push];omega⟩
     have hs4:=mo4.size
     have ho4:Only [P,p,q,g] M2 M4:=fun b x hb hx=>mo4.get _ _ (ho b x hb hx)
     have hat4:=hat.same mo4.get
     cases q2:(X.2==0)with
     |false=>
      have hnf:¬(X.2=0∧VG key di.old.length (QF K O) X.1.x=true):=fun h=>by rw[h.1]at q2;cases q2
      obtain⟨M5,e5⟩:∃M5,M5=M4:=⟨_,rfl⟩
      rw[←e5]at hat4 ho4 hs4 ⊢
      have hat5:=hat4
      have ho5:=ho4
      refine J0 (R1 @q2 ?_)
      rw[if_neg hnf]at hup
      refine CF (J0 (J1 ?_))
      cases q3:(X.2 !=8)with
      |false=>
       rw[if_neg (by simpa using q3)]at hup
       refine S1 @q3 ?_
       refine CF (J4 ?_)
       refine S0 ?_
       refine R1 @w2 ?_
       refine JK [0,6,60] ?_
       exact⟨M5,Thin.refl _,4-(i+1),⟨i+1,rfl,by omega,rfl,by rw[hup],by rw[hup];exact hdi,by rw[hup];exact hli,by rw[hup];exact hat5,ho5,by omega⟩,by omega⟩
      |true=>
       rw[if_pos (by simpa using q3)]at hup
       obtain⟨Wd,hWd⟩:∃Wd,Wd=di.write ((1+i:Nat):Int) []:=⟨_,rfl⟩
       have hwl:Wd.1.old.length=di.old.length:=by rw[hWd];exact QB _ _ _
       have hwa:Wd.2=0→Wd.1.dead=false:=fun h0=>by rw[hWd]at h0 ⊢;exact(Dsk.write_alive (by omega) (by decide) h0).2
       have ws:=XQ M5 p q g di hat5.dsk ((1+i:Nat):Int) [] (by simp)
       rw[←hWd]at ws hup
       refine S1 @q3 ?_
       refine CT (J0 (R1 @w1 ?_))
       refine⟨by kernel_rfl,_,ws,?_⟩
       rintro _ M6 ⟨rfl,hd6,ho6,hs6⟩
       have ho6':Only [p,q,g] M5 M6:=ho6.mono (by simp)
       have hat6:=hat5.disk hd6 hwl ho6'
       have ho7:Only [P,p,q,g] M2 M6:=ho5.trans (ho6'.mono (by simp))
       refine S0 ?_
       refine J0 (R0 ?_)
       refine CC (Wd.2 !=0) (fun hq=>J0 (J1 ?_)) (fun hq=>J4 ?_)
       ·have h4:Ju key K d 4=Ju key K d (i+1):=opn_stick (by rw[hup];simpa using hq) 4 (by omega)
        rw[h4,hup,if_pos (by simpa using hq)]at hZ
        refine S0 ?_
        refine T0 ?_
        subst hZ
        exact⟨_,Thin.refl _,_,rfl,⟨rfl,hd6⟩,fin _ ho7,by omega⟩
       ·refine S0 ?_
        refine R1 @w2 ?_
        refine JK [0,6,60] ?_
        exact⟨M6,Thin.refl _,4-(i+1),⟨i+1,rfl,by omega,rfl,by rw[hup];simpa using hq,by rw[hup];exact hwa (by simpa using hq),by rw[hup];exact hwl.trans hli,by rw[hup];exact hat6,ho7,by omega⟩,by omega⟩
     |true=>
      have hX0:X.2=0:=by simpa using q2
      have hmx:=jouTake_may (s:=di.sector (1+i)) (by rw[←hX];exact hX0)
      rw[←hX]at hmx
      refine J0 (R3 @q2 @g4 @row8 ?_)
      refine⟨by kernel_rfl,_,fits_spec P p q g di _ M4 hat4 (by subst hD0;exact hkl) X.1.x hmx.1,?_⟩
      rintro _ M5 ⟨rfl,mo5⟩
      have hs5:=mo5.size
      have g5:=mo5.get _ _ g4
      have ho5:Only [P,p,q,g] M2 M5:=fun b x hb hx=>mo5.get _ _ (ho4 b x hb hx)
      have hat5:=hat4.same mo5.get
      have hfe:VG ({ D0 with kept:=K,opn:=O }:Dep).key di.old.length ({ D0 with kept:=K,opn:=O }:Dep).places X.1.x=VG key di.old.length (QF K O) X.1.x:=by subst hD0;rfl
      rw[hfe]
      refine S0 ?_
      cases hq:VG key di.old.length (QF K O) X.1.x with
      |true=>
       rw[if_pos ⟨hX0,hq⟩]at hup
       obtain⟨s5,vo5,vk5,hrow5,ho5r,hk5⟩:=hat5.row
       have l4:vo5.length=4:=by rw[ho5r.len,hat5.ok.opn]
       have l8:vk5.length=8:=by rw[hk5.len,hat5.ok.kept]
       have ln:=VH p { D0 with kept:=K,opn:=O } vo5 vk5 l4 l8
       have z0:(0:Int)≤(i:Int):=by omega
       have z8:(i:Int)<((4:Nat):Int):=by omega
       have z8':(i:Int)<4:=by omega
       have hput:Jg 1 M5 P (3+i) [.pointer (some ⟨b4,0,none⟩)] (some (.cells false s5 (JM p { D0 with kept:=K,opn:=O } vo5 vk5)))=some (M5.set P (some (.cells false s5 ((JM p { D0 with kept:=K,opn:=O } vo5 vk5).set (3+i) (.pointer (some ⟨b4,0,none⟩)))))):=by
        simp only[Jg]
        rw[if_pos ⟨rfl,by show 3+i+1≤(JM p { D0 with kept:=K,opn:=O } vo5 vk5).length;omega,rfl⟩]
        rfl
       have nP:b4∉ [P,p,q,g]:=by
        simp only[qi,List.not_mem_nil,or_false]
        omega
       have hfin:=hat5.turnO ho5r hk5 hrow5 i hi (some X.1) (fun y hy=>by cases hy;exact⟨by have:=fits_fitX hq;subst hD0;exact this,hmx.2⟩) (.pointer (some ⟨b4,0,none⟩)) ⟨b4,s2,nP,rfl,g5⟩
       refine CT (R7 @hrow5 @z0 @z8 @z8' @and_self @qn @hput ?_)
       refine R1 @w2 ?_
       refine JK [0,6,60] ?_
       exact⟨_,Thin.refl _,4-(i+1),⟨i+1,rfl,by omega,rfl,by rw[hup],by rw[hup];exact hdi,by rw[hup];exact hli,by rw[hup];exact hfin,ho5.trans (Only.set (by simp) _),by rw[Mem.size_set];omega⟩,by omega⟩
      |false=>
       have hnf:¬(X.2=0∧VG key di.old.length (QF K O) X.1.x=true):=fun h=>by rw[h.2]at hq;cases hq
       rw[if_neg hnf]at hup
       refine CF (J0 (J1 ?_))
       cases q3:(X.2 !=8)with
       |false=>
        rw[if_neg (by simpa using q3)]at hup
        refine S1 @q3 ?_
        refine CF (J4 ?_)
        refine S0 ?_
        refine R1 @w2 ?_
        refine JK [0,6,60] ?_
        exact⟨M5,Thin.refl _,4-(i+1),⟨i+1,rfl,by omega,rfl,by rw[hup],by rw[hup];exact hdi,by rw[hup];exact hli,by rw[hup];exact hat5,ho5,by omega⟩,by omega⟩
       |true=>
        rw[if_pos (by simpa using q3)]at hup
        obtain⟨Wd,hWd⟩:∃Wd,Wd=di.write ((1+i:Nat):Int) []:=⟨_,rfl⟩
        have hwl:Wd.1.old.length=di.old.length:=by rw[hWd];exact QB _ _ _
        have hwa:Wd.2=0→Wd.1.dead=false:=fun h0=>by rw[hWd]at h0 ⊢;exact(Dsk.write_alive (by omega) (by decide) h0).2
        have ws:=XQ M5 p q g di hat5.dsk ((1+i:Nat):Int) [] (by simp)
        rw[←hWd]at ws hup
        refine S1 @q3 ?_
        refine CT (J0 (R1 @w1 ?_))
        refine⟨by kernel_rfl,_,ws,?_⟩
        rintro _ M6 ⟨rfl,hd6,ho6,hs6⟩
        have ho6':Only [p,q,g] M5 M6:=ho6.mono (by simp)
        have hat6:=hat5.disk hd6 hwl ho6'
        have ho7:Only [P,p,q,g] M2 M6:=ho5.trans (ho6'.mono (by simp))
        refine S0 ?_
        refine J0 (R0 ?_)
        refine CC (Wd.2 !=0) (fun hq=>J0 (J1 ?_)) (fun hq=>J4 ?_)
        ·have h4:Ju key K d 4=Ju key K d (i+1):=opn_stick (by rw[hup];simpa using hq) 4 (by omega)
         rw[h4,hup,if_pos (by simpa using hq)]at hZ
         refine S0 ?_
         refine T0 ?_
         subst hZ
         exact⟨_,Thin.refl _,_,rfl,⟨rfl,hd6⟩,fin _ ho7,by omega⟩
        ·refine S0 ?_
         refine R1 @w2 ?_
         refine JK [0,6,60] ?_
         exact⟨M6,Thin.refl _,4-(i+1),⟨i+1,rfl,by omega,rfl,by rw[hup];simpa using hq,by rw[hup];exact hwa (by simpa using hq),by rw[hup];exact hwl.trans hli,by rw[hup];exact hat6,ho7,by omega⟩,by omega⟩
    ·have h:=of_decide_eq_false h
     obtain rfl:i=4:=by omega
     rw[if_neg (by rw[herr];decide),←hdi_,←hO]at hZ
     rw[←hdi_]at hdi hli hat
     rw[←hO]at hat
     obtain⟨E,hE⟩:∃E,E=di.nextE 0:=⟨_,rfl⟩
     rw[←hE]at hZ
     have hel:E.1.old.length=di.old.length:=by rw[hE];exact nextE_len _ _
     refine S0 ?_
     refine J0 (R0 ?_)
     refine⟨by kernel_rfl,_,next_spec M' p q g di hat.dsk 0,?_⟩
     rintro _ M7 ⟨rfl,hd7,ho7,hs7⟩
     rw[←hE]at hd7 ⊢
     have hat7:=hat.disk hd7 hel ho7
     have ho8:Only [P,p,q,g] M2 M7:=ho.trans (ho7.mono (by simp))
     refine S0 ?_
     refine J0 (J0 (R0 ?_))
     refine CC (E.2.2 !=0) (fun hq=>J0 (J1 ?_)) (fun hq=>J4 ?_)
     ·rw[if_pos (by simpa using hq)]at hZ
      refine S0 ?_
      refine T0 ?_
      subst hZ
      exact⟨_,Thin.refl _,_,rfl,⟨rfl,hd7⟩,fin _ ho8,by omega⟩
     rw[if_neg (by simpa using hq)]at hZ
     obtain⟨s5,vo5,vk5,hrow5,ho5r,hk5⟩:=hat7.row
     have hput:Jg 1 M7 P 2 [.int .i64 E.2.1] (some (.cells false s5 (JM p { D0 with kept:=K,opn:=O } vo5 vk5)))=some (M7.set P (some (.cells false s5 ((JM p { D0 with kept:=K,opn:=O } vo5 vk5).set 2 (.int .i64 E.2.1))))):=by
      simp only[Jg]
      rw[if_pos ⟨rfl,by simp[JM],rfl⟩]
      rfl
     have hfin:=hat7.turnE ho5r hk5 hrow5 E.2.1
     refine S0 ?_
     refine J0 (R2 @hrow5 @hput ?_)
     refine J0 (R0 ?_)
     refine T0 ?_
     subst hZ
     refine⟨_,Thin.refl _,_,rfl,⟨P,rfl,by omega,?_⟩,fin _ (ho8.trans (Only.set (by simp) _)),by rw[Mem.size_set];omega⟩
     subst hD0
     exact hfin
def U3(key:List UInt8)(ep st:Int):Dep:=⟨key,ep,qd 4 none,qd 8 none,st⟩
def Z2(key:List UInt8)(a:Arc)(ep st:Int)(G:List Bool):Dep:=⟨key,ep,some ⟨a.ext,G⟩::qd 3 none,qd 8 none,st⟩
def Dp2(key:List UInt8)(a:Arc)(ep st:Int):Dep:=⟨key,ep,qd 4 none,some a.ext::qd 7 none,st⟩
def Zp(a:Arc)(G:List Bool):List UInt8:=Qv ⟨a.ext,G⟩
section
variable {key : List UInt8} {a : Arc} {ep st : Int} {G : List Bool}
theorem ext_may(hk:ArcOk key a)(hl:a.blocks.length≤6):JA a.ext=true:=by
 have hn:=hk.len
 have h:=Ur hk.may
 unfold JA
 simp only[Bool.and_eq_true,decide_eq_true_eq]
 refine⟨⟨?_,by show(0:Int)≤13;decide⟩,by show(13:Int)≤1024-a.head.n;omega⟩
 unfold Header.may
 exact decide_eq_true ((Header.check_zero _).2 hk.may)
theorem d0_head(id:Int):(U3 key ep st).headAt id=(noHead,false,8):=rfl
theorem d1_ext(id:Int):(Z2 key a ep st G).ext? id=none:=rfl
theorem d1_rec:(Z2 key a ep st G).rec? a.head.id=some (0,⟨a.ext,G⟩):=by
 show X8 (fun r:Rec=>decide (r.x.head.id=a.head.id)) (some ⟨a.ext,G⟩::qd 3 none) 0=_
 unfold X8
 rw[if_pos (decide_eq_true (by rfl))]
theorem d1_head:(Z2 key a ep st G).headAt a.head.id=(a.head,false,0):=by
 unfold Dep.headAt
 rw[d1_ext,d1_rec]
 rfl
theorem d0_places:(U3 key ep st).places=[]:=rfl
theorem room_first(N n:Int)(h1:1≤n)(h2:n≤7)(hN:20≤N):VR 13 N n []=some 13:=by
 unfold VR
 rw[if_neg (by omega)]
 obtain⟨k,hk⟩:∃k,(N-13-n+1).toNat=k+1:=⟨(N-13-n).toNat,by omega⟩
 rw[hk]
 unfold UM
 rw[if_pos (by rfl)]
structure Sess(a:Arc)(e:Nat)(d:Dsk)(Gp G:List Bool):Prop where
 hist:Hist a d e (fun X=>X=Gp∨X=G)
 len:(G.length:Int)=a.head.n
 cur:d.sector 1=Jo (Zp a G)
 sure:Sure a d G
 one:∀s,d.poss 1 s→s=Jo (Zp a Gp)∨s=Jo (Zp a G)
 five:∀s,d.poss 5 s→Qg s=[]
theorem burnt_dead{d:Dsk}(h:d.fuse=0):d.burnt.dead=true:=by unfold Dsk.burnt;rw[if_pos h]
theorem Ug{d:Dsk}{i:Nat}{x:List UInt8}(hi:i<d.old.length)(hx:x.length≤256)(hd:d.dead=false)(h:(d.write (i:Int) x).2≠0):
 (d.write (i:Int) x).2=7∧(d.write (i:Int) x).1.dead=true∧∀j s,(d.write (i:Int) x).1.poss j s↔d.poss j s:=by
 rw[Dsk.write_eq hi hx,if_neg (by rw[hd];decide)]at h ⊢
 split at h
 ·rename_i hf
  rw[if_pos hf]
  exact⟨rfl,burnt_dead hf,fun j s=>Dsk.burnt_poss⟩
 ·exact absurd rfl h
theorem sync_bad{d:Dsk}(hn:0<d.old.length)(hd:d.dead=false)(h:d.sync.2≠0):
 d.sync.2=7∧d.sync.1.dead=true∧∀j s,d.sync.1.poss j s↔d.poss j s:=by
 rw[Dsk.sync_eq hn,if_neg (by rw[hd];decide)]at h ⊢
 split at h
 ·rename_i hf
  rw[if_pos hf]
  exact⟨rfl,burnt_dead hf,fun j s=>Dsk.burnt_poss⟩
 ·exact absurd rfl h
theorem sync_alive{d:Dsk}(hn:0<d.old.length)(h0:d.sync.2=0):d.dead=false∧d.sync.1.dead=false:=by
 rw[Dsk.sync_eq hn]at h0 ⊢
 split at h0
 ·cases h0
 ·split at h0
  ·cases h0
  ·rename_i h1 h2
   rw[if_neg h1,if_neg h2]
   refine⟨by simpa using h1,?_⟩
   show d.burnt.dead=false
   unfold Dsk.burnt
   rw[if_neg h2]
   simpa using h1
theorem write_new{d:Dsk}{i:Nat}{x:List UInt8}(hi:i<d.old.length)(hx:x.length≤256)(h0:(d.write (i:Int) x).2=0):(d.write (i:Int) x).1.sector i=Jo x:=by
 rw[Dsk.write_sector hi hx h0,if_pos rfl]
theorem sure_synced{a:Arc}{d:Dsk}{G:List Bool}{k:Nat}{b:List UInt8}(hb:a.blocks[k]?=some b)(hG:Sure a d G)(hn:0<d.old.length)(hcur:d.sector (13+k)=Jo b)(h0:d.sync.2=0):Sure a d.sync.1 (G.set k true):=fun j c hj hc t ht=>by
 have e:=Dsk.sync_done hn h0 ht
 by_cases ejk:j=k
 ·subst ejk
  rw[hb]at hc;cases hc
  rw[e,hcur]
 ·rw[qo (fun h=>ejk h.symm)]at hj
  exact hG j c hj hc t (Dsk.sync_poss hn ht)
theorem Hist.cong{a:Arc}{d d':Dsk}{e:Nat}{P:List Bool→Prop}(h:Hist a d e P)(hok:d'.Ok)(hn:d'.old.length=d.old.length)(hp:∀i t,d'.poss i t↔d.poss i t):Hist a d' e P:=
 h.less hok hn fun i t ht=>(hp i t).1 ht
theorem sess_stage{e:Nat}{d:Dsk}{Gp:List Bool}(hk:ArcOk key a)(hl:a.blocks.length≤6)(h:Sess a e d Gp G)(hd:d.dead=false)(k:Nat)(b:List UInt8)(hb:a.blocks[k]?=some b)(hG:G.getD k false=false):
 (Dep.staged1 d (Z2 key a ep st G) 0 ⟨a.ext,G⟩ (k:Int) b).2.2=0∧(Dep.staged1 d (Z2 key a ep st G) 0 ⟨a.ext,G⟩ (k:Int) b).2.1=Z2 key a ep (st+1) (G.set k true)∧
  Sess a e (Dep.staged1 d (Z2 key a ep st G) 0 ⟨a.ext,G⟩ (k:Int) b).1 G (G.set k true)∧(Dep.staged1 d (Z2 key a ep st G) 0 ⟨a.ext,G⟩ (k:Int) b).1.dead=false∧(d.live→(Dep.staged1 d (Z2 key a ep st G) 0 ⟨a.ext,G⟩ (k:Int) b).1.live)
 ∨¬d.live∧(Dep.staged1 d (Z2 key a ep st G) 0 ⟨a.ext,G⟩ (k:Int) b).2.2=7∧(∃st',(st'=st∨st'=st+1)∧(Dep.staged1 d (Z2 key a ep st G) 0 ⟨a.ext,G⟩ (k:Int) b).2.1=Z2 key a ep st' G)∧
  Hist a (Dep.staged1 d (Z2 key a ep st G) 0 ⟨a.ext,G⟩ (k:Int) b).1 e (fun X=>X=Gp∨X=G)∧(∀s,(Dep.staged1 d (Z2 key a ep st G) 0 ⟨a.ext,G⟩ (k:Int) b).1.poss 1 s→s=Jo (Zp a Gp)∨s=Jo (Zp a G))∧(Dep.staged1 d (Z2 key a ep st G) 0 ⟨a.ext,G⟩ (k:Int) b).1.dead=true:=by
 have hn40:=h.hist.n
 have hpos:0<d.old.length:=by omega
 have hkl:=(qq.1 hb).1
 have hbl:b.length=224:=hk.size b (qu hb)
 have hwi:13+k<d.old.length:=by omega
 have hx:b.length≤256:=by omega
 have hm:=ext_may hk hl
 have hGl:G.length=a.blocks.length:=by have:=h.len;have:=hk.len;omega
 obtain⟨W,hW⟩:∃W,W=d.write ((13+k:Nat):Int) b:=⟨_,rfl⟩
 have hWe:d.write ((⟨a.ext,G⟩:Rec).x.base+(k:Int)) b=W:=by rw[hW];congr 1
 obtain⟨Y,hY⟩:∃Y,Y=W.1.sync:=⟨_,rfl⟩
 obtain⟨U,hU⟩:∃U,U=Y.1.write ((1+0:Nat):Int) (Zp a (G.set k true)):=⟨_,rfl⟩
 have hrest:=stage_rest (d:=d) (D:=Z2 key a ep st G) (k:=0) (r:=⟨a.ext,G⟩) (i:=(k:Int)) (s:=b) hWe.symm hY (show U=_ from hU)
 obtain⟨Z,hZ⟩:∃Z,Z=Dep.staged1 d (Z2 key a ep st G) 0 ⟨a.ext,G⟩ (k:Int) b:=⟨_,rfl⟩
 rw[←hZ]at hrest ⊢
 have hist1:Hist a W.1 e (fun X=>X=Gp∨X=G):=by rw[hW];exact h.hist.data hb hx (by omega)
 have wp:∀i t,W.1.poss i t→d.poss i t∨(i=13+k∧t=Jo b):=fun i t ht=>by rw[hW]at ht;exact Dsk.write_poss hwi hx ht
 have one1:∀s,W.1.poss 1 s→s=Jo (Zp a Gp)∨s=Jo (Zp a G):=fun s hs=>by
  rcases wp 1 s hs with h1|⟨h1,_⟩
  ·exact h.one s h1
  ·omega
 by_cases w0:W.2=0
 ·rw[if_neg (by simp[w0])]at hrest
  have wa:=Dsk.write_alive hwi hx (by rw[←hW];exact w0)
  rw[←hW]at wa
  have ws:W.1.sector (13+k)=Jo b:=by rw[hW];exact write_new hwi hx (by rw[←hW];exact w0)
  have ws1:W.1.sector 1=Jo (Zp a G):=by
   rw[hW,Dsk.write_sector hwi hx (by rw[←hW];exact w0),if_neg (by omega)];exact h.cur
  have hist2:Hist a Y.1 e (fun X=>X=Gp∨X=G):=by rw[hY];exact hist1.sync
  have hWn:0<W.1.old.length:=by have:=hist1.n;omega
  have sure1:Sure a W.1 G:=h.sure.less fun i t _ ht=>by
   rcases wp i t ht with h1|⟨h1,h2⟩
   ·exact .inl h1
   ·exact .inr ⟨k,b,h1,hb,h2⟩
  by_cases y0:Y.2=0
  ·rw[if_neg (by simp[y0])]at hrest
   have ya:=sync_alive hWn (by rw[←hY];exact y0)
   rw[←hY]at ya
   have sure2:Sure a Y.1 (G.set k true):=by rw[hY];exact sure_synced hb sure1 hWn ws (by rw[←hY];exact y0)
   have y1:∀s,Y.1.poss 1 s→s=Jo (Zp a G):=fun s hs=>by
    rw[hY]at hs
    rw[Dsk.sync_done hWn (by rw[←hY];exact y0) hs,ws1]
   have y5:∀s,Y.1.poss 5 s→Qg s=[]:=fun s hs=>by
    rw[hY]at hs
    rcases wp 5 s (Dsk.sync_poss hWn hs)with h1|⟨h1,_⟩
    ·exact h.five s h1
    ·omega
   have hGs:((G.set k true).length:Int)=a.head.n:=by rw[List.length_set];exact h.len
   have hYn:20≤Y.1.old.length:=hist2.n
   have hi1:1+0<Y.1.old.length:=by omega
   have hx1:(Zp a (G.set k true)).length≤256:=by unfold Zp;rw[jouText_len hm];decide
   have hist2':Hist a Y.1 e (fun X=>X=G∨X=G.set k true):=⟨hist2.ok,hist2.n,hist2.s0,hist2.free,fun s hs=>.inr ⟨G,h.len,.inl rfl,y1 s hs,fun j c hj hc t ht=>sure2 j c (by
    by_cases e:k=j
    ·subst e;rw[List.getElem?_set_self (by omega)]
    ·rw[qo e];exact hj) hc t ht⟩,fun s hs=>.inl (y5 s hs)⟩
   by_cases u0:U.2=0
   ·left
    rw[if_neg (by simp[u0])]at hrest
    have ua:=Dsk.write_alive hi1 hx1 (by rw[←hU];exact u0)
    rw[←hU]at ua
    have up:∀i t,U.1.poss i t→Y.1.poss i t∨(i=1+0∧t=Jo (Zp a (G.set k true))):=fun i t ht=>by rw[hU]at ht;exact Dsk.write_poss hi1 hx1 ht
    rw[hrest]
    refine⟨rfl,rfl,⟨?_,hGs,?_,?_,?_,?_⟩,ua.2,fun hlv=>?_⟩
    ·show Hist a U.1 e _
     rw[hU]
     exact hist2'.record hx1 (.inr ⟨G.set k true,hGs,.inr rfl,rfl,sure2⟩)
    ·show U.1.sector 1=_
     rw[hU]
     exact write_new hi1 hx1 (by rw[←hU];exact u0)
    ·exact sure2.less fun i t hi ht=>by
      rcases up i t ht with h1|⟨h1,_⟩
      ·exact .inl h1
      ·omega
    ·intro s hs
     rcases up 1 s hs with h1|⟨_,h1⟩
     ·exact .inl (y1 s h1)
     ·exact .inr h1
    ·intro s hs
     rcases up 5 s hs with h1|⟨h1,_⟩
     ·exact y5 s h1
     ·omega
    ·show U.1.live
     rw[hU]
     refine(Dsk.write_live hi1 hx1 ?_).2
     rw[hY]
     refine(Dsk.sync_live hWn ?_).2
     rw[hW]
     exact(Dsk.write_live hwi hx hlv).2
   ·right
    rw[if_pos u0]at hrest
    have ub:=Ug hi1 hx1 ya.2 (by rw[←hU];exact u0)
    rw[←hU]at ub
    rw[hrest]
    refine⟨fun hlv=>?_,ub.1,⟨st+1,.inr rfl,rfl⟩,?_,?_,ub.2.1⟩
    ·apply u0
     rw[hU]
     refine(Dsk.write_live hi1 hx1 ?_).1
     rw[hY]
     refine(Dsk.sync_live hWn ?_).2
     rw[hW]
     exact(Dsk.write_live hwi hx hlv).2
    ·exact hist2.cong (by rw[hU];exact Dsk.write_ok hist2.ok hi1 hx1) (by rw[hU,Dsk.write_old hi1 hx1]) ub.2.2
    ·intro s hs
     exact .inr (y1 s ((ub.2.2 1 s).1 hs))
  ·right
   rw[if_pos y0]at hrest
   have yb:=sync_bad hWn wa.2 (by rw[←hY];exact y0)
   rw[←hY]at yb
   rw[hrest]
   refine⟨fun hlv=>?_,yb.1,⟨st+1,.inr rfl,rfl⟩,hist2,fun s hs=>one1 s ((yb.2.2 1 s).1 hs),yb.2.1⟩
   apply y0
   rw[hY]
   refine(Dsk.sync_live hWn ?_).1
   rw[hW]
   exact(Dsk.write_live hwi hx hlv).2
 ·right
  rw[if_pos w0]at hrest
  have wb:=Ug hwi hx hd (by rw[←hW];exact w0)
  rw[←hW]at wb
  rw[hrest]
  refine⟨fun hlv=>?_,wb.1,⟨st,.inl rfl,rfl⟩,hist1,one1,wb.2.1⟩
  apply w0
  rw[hW]
  exact(Dsk.write_live hwi hx hlv).1
end
def Qt(d p e q:Value)(sec:List UInt8)(L:Value):List Value:=[d,p,e,q,.string (str sec),L]
def ptr(b:Nat):Value:=.pointer (some ⟨b,0,none⟩)
theorem rp_eql(p o:Nat):aBin qc .eql 38 true (.pointer (some ⟨p,o,none⟩)) (.pointer none)=some (.bool false):=by kernel_rfl
theorem hp_eql(p o:Nat):aBin qc .eql 34 true (.pointer (some ⟨p,o,none⟩)) (.pointer none)=some (.bool false):=by kernel_rfl
theorem bb_eql:aBin qc .eql 4 false (.bool false) (.bool false)=some (.bool true):=by kernel_rfl
theorem PtrsAt.none{α:Type}{enc:α→List Value}{K:List Nat}{M M':Mem}{n:Nat}{vs:List Value}(h:PtrsAt enc K M (qd n none) vs):PtrsAt enc K M' (qd n none) vs:=
 ⟨h.len,fun i o hi=>by
  obtain⟨v,h1,h2⟩:=h.at_ i o hi
  rw[qk]at hi
  split at hi<;>cases hi
  exact⟨v,h1,h2⟩⟩
theorem DepAt.only0{M M':Mem}{P p q g:Nat}{d:Dsk}{key:List UInt8}{ep st:Int}(h:DepAt M P p q g d (U3 key ep st)){l:List Nat}(ho:Only l M M')(hP:P∉l)(hp:p∉l)(hq:q∉l)(hg:g∉l):DepAt M' P p q g d (U3 key ep st):=
 ⟨h.dsk.only ho hp hq hg,h.ok,by
  obtain⟨s,vo,vk,h1,h2,h3⟩:=h.row
  exact⟨s,vo,vk,ho _ _ hP h1,h2.none,h3.none⟩,h.ne⟩
structure HouseAt(M:Mem)(H p q g P n:Nat)(sec:List UInt8)(VL:Value):Prop where
 row:∃s e Q,M.get H=some (.cells false s (Qt (ptr p) (ptr P) (ptr e) (ptr Q) sec VL))∧∃s2 VO VK,M.get Q=some (.cells false s2 (XH e (Sha.headKey sec) 1 VO VK))∧Q≠H∧Q∉ [P,p,q,g]
 dep:DepAt M P p q g (Jj n) (U3 (Sha.headKey sec) 1 0)
 ne:H∉ [P,p,q,g]
theorem hopen_spec{M:Mem}{H p q g e n bO bL bF s:Nat}{sec:List UInt8}{VL:Value}(hH:M.get H=some (.cells false s (Qt (ptr p) (.pointer none) (ptr e) (.pointer none) sec VL)))(hd:DskAt M p q g (Q1 n))(hr:RB M e n bO bL bF)
 (h13:13≤n) (hn:n≤1024) (hsec:sec.length≤100) (hne:H∉ [p,q,g]) (hHb:H∉ [bO,bL,bF]) (hb:bO∉ [p,q,g]∧bL∉ [p,q,g]∧bF∉ [p,q,g]∧e∉ [p,q,g]):
 Abs.Spec qc 43 [ptr H] M fun u M'=>∃P,u=.bool true∧HouseAt M' H p q g P n sec VL∧Only [H,p,q,g,bO,bL,bF] M M'∧M.size≤M'.size∧M.size≤P:=by
 obtain⟨key,hkey⟩:∃key,key=Sha.headKey sec:=⟨_,rfl⟩
 have q0:((0:Int)==0)=true:=rfl
 have hHl:=Mem.get_lt hH
 obtain⟨_,_,gO⟩:=hr.1.old
 obtain⟨_,_,gF⟩:=hr.1.fresh
 obtain⟨_,gE⟩:=hr.1.row
 have lO:=Mem.get_lt gO
 have lL:=Mem.get_lt hr.2
 have lF:=Mem.get_lt gF
 have hdp:dp p=ptr p:=rfl
 have k0:∀s d p e q L,cellIn 0 (some (.cells false s (Qt d p e q sec L)))=some d:=fun _ _ _ _ _ _=>rfl
 have k2:∀s d p e q L,cellIn 2 (some (.cells false s (Qt d p e q sec L)))=some e:=fun _ _ _ _ _ _=>rfl
 have k4:∀s d p e q L,cellIn 4 (some (.cells false s (Qt d p e q sec L)))=some (.string (str sec)):=fun _ _ _ _ _ _=>rfl
 have hlp:∀b,ptr b=.pointer (some ⟨b,0,none⟩):=fun _=>rfl
 have os:=open_spec M p q g (Q1 n) hd (str sec) (by rw[str_size];omega)
 rw[show(str sec).data.toList=sec from rfl,open_new n h13 hn _,←hkey]at os
 refine WM Tryz.func43 Tryz.results43 Tryz.ntmps43 fun _=>?_
 refine J0 (R0 ?_)
 refine J0 (CW_drawnG hmix [(8,9),(13,14)] (by kernel_rfl) ?_)
 simp only[zZ,reduceIte,yQ,yW,yX,yZ,yJ,yK,yV,zDk,Jc,Jd,Ja,J9,XX,XE,JI,Q8,Qu,isVal,sGuardedV,JG,JU,yY,qm,hlp,hH,k0,k4]
 refine⟨by kernel_rfl,_,os,?_⟩
 rintro _ M1 ⟨v,rfl,hopen,ho1,hs1⟩
 obtain⟨P,rfl,hP,hat⟩:=hopen
 have hH1:=ho1 H _ hne hH
 have hr1:RB M1 e n bO bL bF:=by
  obtain⟨⟨⟨s,a1⟩,⟨L,a2,a3⟩,_,⟨F,a6,a7⟩⟩,a8⟩:=hr
  have a8':=ho1 _ _ hb.2.1 a8
  exact⟨⟨⟨s,ho1 _ _ hb.2.2.2 a1⟩,⟨L,a2,ho1 _ _ hb.1 a3⟩,⟨_,qf,a8'⟩,⟨F,a6,ho1 _ _ hb.2.2.1 a7⟩⟩,a8'⟩
 simp only[zZ,reduceIte,yQ,yW,yX,yZ,yJ,yK,yV,zDk,Jc,Jd,Ja,J9,XX,XE,JI,Q8,Qu,isVal,sGuardedV,JG,JU,yY,qm]
 refine J0 (CW_drawnG hmix [(8,9),(13,14)] (by kernel_rfl) ?_)
 simp only[zZ,reduceIte,yQ,yW,yX,yZ,yJ,yK,yV,zDk,Jc,Jd,Ja,J9,XX,XE,JI,Q8,Qu,isVal,sGuardedV,JG,JU,yY,qm,hlp,hH1,k2,k4]
 refine⟨by kernel_rfl,_,ropen_spec hr1 h13 hn sec (by omega),?_⟩
 rintro _ M2 ⟨Q,s2,VO,VK,rfl,gQ,hQ,ho2,hs2⟩
 rw[←hkey]at gQ
 have pl:p<M.size:=by obtain⟨s,h⟩:=hd.row;exact Mem.get_lt h
 have ql:=Mem.get_lt hd.kv
 have gl:=Mem.get_lt hd.old
 have hat2:DepAt M2 P p q g (Jj n) (U3 key 1 0):=DepAt.only0 hat ho2 (by simp;omega) (by simp at hb ⊢;omega) (by simp at hb ⊢;omega) (by simp at hb ⊢;omega)
 have hH2:=ho2 H _ hHb hH1
 have p1:Jg 1 M2 H 1 [.pointer (some ⟨P,0,none⟩)] (some (.cells false s (Qt (ptr p) (.pointer none) (ptr e) (.pointer none) sec VL)))=some (M2.set H (some (.cells false s (Qt (ptr p) (ptr P) (ptr e) (.pointer none) sec VL)))):=rfl
 obtain⟨M3,hM3⟩:∃M3,M3=M2.set H (some (.cells false s (Qt (ptr p) (ptr P) (ptr e) (.pointer none) sec VL))):=⟨_,rfl⟩
 have hH3:M3.get H=some (.cells false s (Qt (ptr p) (ptr P) (ptr e) (.pointer none) sec VL)):=by rw[hM3];exact Mem.get_set_same hH2 _
 have p3:Jg 1 M3 H 3 [.pointer (some ⟨Q,0,none⟩)] (some (.cells false s (Qt (ptr p) (ptr P) (ptr e) (.pointer none) sec VL)))=some (M3.set H (some (.cells false s (Qt (ptr p) (ptr P) (ptr e) (ptr Q) sec VL)))):=rfl
 have ag:∀b,(Value.pointer (some ⟨b,0,none⟩)).cells.toList=[.pointer (some ⟨b,0,none⟩)]:=fun _=>rfl
 simp only[zZ,reduceIte,yQ,yW,yX,yZ,yJ,yK,yV,zDk,Jc,Jd,Ja,J9,XX,XE,JI,Q8,Qu,isVal,sGuardedV,JG,JU,yY,qm]
 refine J0 (R3 @hH2 @ag @p1 ?_)
 rw[←hM3]
 refine J0 (R3 @hH3 @ag @p3 ?_)
 refine J0 (R4 @q0 @pp_eql @rp_eql @bb_eql ?_)
 refine T0 ?_
 have hPH:P≠H:=by omega
 have oH:∀b x,b≠H→M2.get b=some x→(M3.set H (some (.cells false s (Qt (ptr p) (ptr P) (ptr e) (ptr Q) sec VL)))).get b=some x:=fun b x hb hx=>by
  rw[Mem.get_set_ne (Ne.symm hb),hM3,Mem.get_set_ne (Ne.symm hb)];exact hx
 refine⟨_,Thin.refl _,P,⟨⟨s,e,Q,Mem.get_set_same hH3 _,s2,VO,VK,by rw[←hkey];exact oH Q _ (by omega) gQ,by omega,by have:=Mem.get_lt hat.row.choose_spec.choose_spec.choose_spec.1;simp;omega⟩,?_,by simp at hne ⊢;omega⟩,?_,by rw[Mem.size_set,hM3,Mem.size_set];omega,hP⟩
 ·rw[←hkey]
  exact hat2.only0 (l:=[H]) (fun b x hb hx=>oH b x (by simpa using hb) hx) (by simp;omega) (by simp at hne ⊢;omega) (by simp at hne ⊢;omega) (by simp at hne ⊢;omega)
 ·intro b x hbl hx
  simp at hbl
  exact oH b x hbl.1 (ho2 b x (by simp;omega) (ho1 b x (by simp;omega) hx))
theorem built_spec(n:Nat)(h13:13≤n)(hn:n≤1024)(sec:List UInt8)(hsec:sec.length≤4000000000000000000)(T:List (List UInt8))(hT:T.length≤4000000000000000000)(hTs:∀t∈T,t.length≤4000000000000000000)(M:Mem)(v:Value)(h:StrsRd M v T):
 Abs.Spec qc 14 [.int .i64 (n:Nat),.string (str sec),v] M fun u M'=>∃H p q g P VL LA M1,u=ptr H∧HouseAt M' H p q g P n (sec.take 100) VL∧LA.map Prod.fst=madeOf (sec.take 100) T∧
  ArcsOwn M.size M1 VL LA∧(∀b x,M.get b=some x→M1.get b=some x)∧(∀b x,M1.get b=some x→M'.get b=some x)∧M.size≤M1.size∧M1.size≤H∧M1.size≤p∧M1.size≤q∧M1.size≤g∧M1.size≤P∧M1.size≤M'.size:=by
 have hbs:∀t,Js (str t)=t.length:=fun _=>rfl
 have q0:((0:Int) !=0)=false:=rfl
 have hlp:∀b,ptr b=.pointer (some ⟨b,0,none⟩):=fun _=>rfl
 have hdp:∀b,dp b=.pointer (some ⟨b,0,none⟩):=fun _=>rfl
 have ag:∀b,(Value.pointer (some ⟨b,0,none⟩)).cells.toList=[.pointer (some ⟨b,0,none⟩)]:=fun _=>rfl
 obtain⟨S,hS⟩:∃S,S=sec.take 100:=⟨_,rfl⟩
 have hSl:S.length≤100:=by rw[hS,List.length_take];omega
 rw[←hS]
 refine WM Tryz.func14 Tryz.results14 Tryz.ntmps14 fun _=>?_
 refine J0 (R0 ?_)
 refine Xv (fun f M'=>f=[(0,.int .i64 (n:Nat)),(1,.string (str S)),(2,v)]∧M'=M) ?_ ?_
 ·refine J0 (R1 @hbs ?_)
  refine CC (decide (((sec.length:Nat):Int)>100)) (fun hq=>J1 ?_) (fun hq=>J4 ?_)
  ·have hq:=of_decide_eq_true hq
   have sl:=fun get=>Z6 get (str sec) 100 (by rw[str_size];omega)
   rw[show(str sec).data.toList=sec from rfl,←hS]at sl
   have sl2:∀get,JS qc get 9 (.string (str sec)) none (some (.int .i64 100))=some (.string (str S)):=sl
   refine S1 @sl2 ?_
   refine JK [0,1,2] ?_
   exact⟨M,Thin.refl _,rfl⟩
  ·have hq:=of_decide_eq_false hq
   refine JK [0,1,2] ?_
   exact⟨M,Thin.refl _,by rw[hS,List.take_of_length_le (by omega)],rfl⟩
 rintro _ M9 ⟨rfl,e9⟩;replace e9:=e9.symm;subst e9
 refine J0 (R0 ?_)
 refine⟨by kernel_rfl,_,made_spec S (by omega) T hT hTs M v h,?_⟩
 rintro VL M1 ⟨LA,hLA,hown,mo1⟩
 obtain⟨a,c,rfl⟩:=hown.1.len
 have bd:Qf qc 41 [(4,.string (str S)),(5,.slice a LA.length c)]=some (.agg (Qt (.pointer none) (.pointer none) (.pointer none) (.pointer none) S (.slice a LA.length c)).toArray):=by kernel_rfl
 have bx:QG qc 41 (.agg (Qt (.pointer none) (.pointer none) (.pointer none) (.pointer none) S (.slice a LA.length c)).toArray)=some (.cells false (J6 qc 41) (Qt (.pointer none) (.pointer none) (.pointer none) (.pointer none) S (.slice a LA.length c))):=bx_House _ rfl
 generalize J6 qc 41=s1 at bx
 obtain⟨VL,hVL⟩:∃VL,VL=Value.slice a LA.length c:=⟨_,rfl⟩
 refine S2 @bd @bx ?_
 rw[←hVL]
 obtain⟨H,hH⟩:∃H,H=M1.size:=⟨_,rfl⟩
 obtain⟨M2,hM2⟩:∃M2,M2=M1.push (.cells false s1 (Qt (.pointer none) (.pointer none) (.pointer none) (.pointer none) S VL)):=⟨_,rfl⟩
 have g2:M2.get H=some (.cells false s1 (Qt (.pointer none) (.pointer none) (.pointer none) (.pointer none) S VL)):=by rw[hM2,hH,Mem.get_push_new]
 have s2z:M2.size=H+1:=by rw[hM2,Mem.size_push,hH]
 rw[←hM2,←hH]
 refine J0 (R0 ?_)
 refine⟨by kernel_rfl,_,new_spec M2 n (by omega) hn,?_⟩
 rintro _ M3 ⟨p,q,g,rfl,hd3,hp,hq,hg,ho3,hs3⟩
 refine S1 @hdp ?_
 refine J0 (R0 ?_)
 refine⟨by kernel_rfl,_,rnew_spec n (by omega) hn M3,?_⟩
 rintro _ M4 ⟨e,bO,bL,bF,rfl,hr4,he,hbO,hbL,hbF,mo4⟩
 have g4:=mo4.get _ _ (ho3 H _ (by simp) g2)
 have p5:Jg 1 M4 H 0 [.pointer (some ⟨p,0,none⟩)] (some (.cells false s1 (Qt (.pointer none) (.pointer none) (.pointer none) (.pointer none) S VL)))=some (M4.set H (some (.cells false s1 (Qt (ptr p) (.pointer none) (.pointer none) (.pointer none) S VL)))):=rfl
 obtain⟨M5,hM5⟩:∃M5,M5=M4.set H (some (.cells false s1 (Qt (ptr p) (.pointer none) (.pointer none) (.pointer none) S VL))):=⟨_,rfl⟩
 have g5:M5.get H=some (.cells false s1 (Qt (ptr p) (.pointer none) (.pointer none) (.pointer none) S VL)):=by rw[hM5];exact Mem.get_set_same g4 _
 have p6:Jg 1 M5 H 2 [.pointer (some ⟨e,0,none⟩)] (some (.cells false s1 (Qt (ptr p) (.pointer none) (.pointer none) (.pointer none) S VL)))=some (M5.set H (some (.cells false s1 (Qt (ptr p) (.pointer none) (ptr e) (.pointer none) S VL)))):=rfl
 obtain⟨M6,hM6⟩:∃M6,M6=M5.set H (some (.cells false s1 (Qt (ptr p) (.pointer none) (ptr e) (.pointer none) S VL))):=⟨_,rfl⟩
 have g6:M6.get H=some (.cells false s1 (Qt (ptr p) (.pointer none) (ptr e) (.pointer none) S VL)):=by rw[hM6];exact Mem.get_set_same g5 _
 have o46:∀b x,b≠H→M4.get b=some x→M6.get b=some x:=fun b x hb hx=>by
  rw[hM6,Mem.get_set_ne (Ne.symm hb),hM5,Mem.get_set_ne (Ne.symm hb)];exact hx
 have s6z:M6.size=M4.size:=by rw[hM6,Mem.size_set,hM5,Mem.size_set]
 have s4z:=mo4.size
 have pl:p<M3.size:=by obtain⟨s,h⟩:=hd3.row;exact Mem.get_lt h
 have ql:=Mem.get_lt hd3.kv
 have gl:=Mem.get_lt hd3.old
 have hd6:DskAt M6 p q g (Q1 n):=(hd3.same mo4.get).only (l:=[H]) (fun b x hb hx=>o46 b x (by simpa using hb) hx) (by simp;omega) (by simp;omega) (by simp;omega)
 have hr6:RB M6 e n bO bL bF:=by
  obtain⟨⟨⟨s,a1⟩,⟨L,a2,a3⟩,_,⟨F,a6,a7⟩⟩,a8⟩:=hr4
  have a8':=o46 _ _ (by omega) a8
  exact⟨⟨⟨s,o46 _ _ (by omega) a1⟩,⟨L,a2,o46 _ _ (by omega) a3⟩,⟨_,qf,a8'⟩,⟨F,a6,o46 _ _ (by omega) a7⟩⟩,a8'⟩
 refine S0 ?_
 refine J0 (J0 (R1 @q0 ?_))
 refine CF (J4 ?_)
 refine S0 ?_
 refine J0 (R3 @g4 @ag @p5 ?_)
 rw[←hM5]
 refine J0 (R3 @g5 @ag @p6 ?_)
 rw[←hM6]
 refine J0 (J0 (R0 ?_))
 refine⟨by kernel_rfl,_,hopen_spec g6 hd6 hr6 h13 hn hSl (by simp;omega) (by simp;omega) (by simp;omega),?_⟩
 rintro _ M7 ⟨P,rfl,hat,ho7,hs7,hP⟩
 refine S0 ?_
 refine CF (J4 ?_)
 refine S0 ?_
 refine J0 (R0 ?_)
 refine T0 ?_
 refine⟨_,Thin.refl _,H,p,q,g,P,VL,LA,M1,rfl,hat,hLA,by rw[hVL];exact hown,mo1.get,fun b x hx=>?_,mo1.size,by omega,by omega,by omega,by omega,by omega,by omega⟩
 have lb:=Mem.get_lt hx
 refine ho7 b x (by simp;omega) (o46 b x (by omega) (mo4.get b x (ho3 b x (by simp) ?_)))
 rw[hM2,Mem.get_push_old lb];exact hx
theorem Header.verify_may(h:Header)(key:List UInt8):h.verify key=if h.may=true then(if str (Sha.tag key h.fields.data.toList)=h.tag then 0 else 4)else 1:=by
 unfold Header.verify Header.may
 have hs:Vs (Sha.tag key h.fields.data.toList) h.tag.data.toList=true↔str (Sha.tag key h.fields.data.toList)=h.tag:=by
  unfold Vs
  rw[decide_eq_true_eq]
  constructor
  ·intro x
   apply ByteArray.ext
   apply Array.ext'
   rw[←x];rfl
  ·intro x
   rw[←x];rfl
 rcases h.check_cases with hc|⟨hc, -⟩
 ·simp[hc]
 ·by_cases hx:Vs (Sha.tag key h.fields.data.toList) h.tag.data.toList=true
  ·simp[hc,hx,hs.1 hx]
  ·have hy:¬str (Sha.tag key h.fields.data.toList)=h.tag:=fun y=>hx (hs.2 y)
   simp[hc,hx,hy]
theorem may_at(h:Header)(m:Mem):Abs.Spec qc 63 [.agg h.cells.toArray] m fun u M=>u=.bool h.may∧M=m:=
 Abs.Spec.of_flat (by intro x hx;simp at hx;subst hx;rfl) rfl fun w=>may_any h w
theorem rverify_at(key:List UInt8)(hk:key.length≤1000000)(h:Header)(m:Mem):Abs.Spec qc 17 [.string (str key),.agg h.cells.toArray] m fun u M=>u=.int .i64 (h.verify key)∧M=m:=by
 refine Abs.Spec.of_empty (by intro x hx;simp at hx;rcases hx with rfl|rfl<;>rfl) rfl ?_ m
 have hv:=h.verify_may key
 have bx:QG qc 33 (.agg h.cells.toArray)=some (.cells false (J6 qc 33) h.cells):=Ka _ rfl
 generalize J6 qc 33=s1 at bx
 have row7:Jp 7 0 (some (.cells false s1 h.cells))=some (.agg h.cells.toArray):=rfl
 have k6:cellIn 6 (some (.cells false s1 h.cells))=some (.string h.tag):=rfl
 obtain⟨M1,hM1⟩:∃M1:Mem,M1=(⟨[]⟩:Mem).push (.cells false s1 h.cells):=⟨_,rfl⟩
 obtain⟨b2,hb2⟩:∃b,b=(⟨[]⟩:Mem).size:=⟨_,rfl⟩
 have g2:M1.get b2=some (.cells false s1 h.cells):=by rw[hM1,hb2,Mem.get_push_new]
 refine WM Tryz.func17 Tryz.results17 Tryz.ntmps17 fun _=>?_
 refine J0 (R1 @bx ?_)
 rw[←hM1,←hb2]
 refine J0 (J0 (R2 @g2 @row7 ?_))
 refine K0 (may_at h _) ?_
 cases hm:h.may with
 |false=>
  rw[if_neg (by rw[hm];decide)]at hv
  refine CT (J0 (R0 ?_))
  refine T0 ?_
  exact⟨_,Thin.refl _,by rw[hv]⟩
 |true=>
  rw[if_pos hm]at hv
  have hok:h.okP:=(Header.check_zero _).1 (by unfold Header.may at hm;exact of_decide_eq_true hm)
  obtain⟨o1,o2,o3,o4,o5,o6,o7,o8,o9,o10⟩:=hok
  have hfs:=h.fields_size
  refine CF (J4 ?_)
  refine S0 ?_
  refine J0 (J0 (D3 6 @g2 @row7 @k6 ?_))
  refine⟨by kernel_rfl,_,(Abs.Spec.of_flat (by intro x hx;simp at hx;subst hx;rfl) rfl fun w=>rfields_any h ⟨o1,o2,o3,o4,o5,o6,o7,o8,o9,o10⟩ (by omega) (by omega) w),?_⟩
  refine⟨by decide,?_⟩
  refine S0 ?_
  refine⟨by kernel_rfl,_,rtag_at _ (str key) h.fields (by rw[str_size];omega) (by rw[hfs];omega),?_⟩
  refine⟨by decide,?_⟩
  rw[show(str key).data.toList=key from rfl]
  by_cases e:str (Sha.tag key h.fields.data.toList)=h.tag
  ·have q1:beqB (str (Sha.tag key h.fields.data.toList)) h.tag=true:=by rw[beqB_dec];exact decide_eq_true e
   rw[if_pos e]at hv
   refine S3 @g2 @k6 @q1 ?_
   refine CF (J4 ?_)
   refine S0 ?_
   refine J0 (R0 ?_)
   refine T0 ?_
   exact⟨_,Thin.refl _,by rw[hv]⟩
  ·have q1:beqB (str (Sha.tag key h.fields.data.toList)) h.tag=false:=by rw[beqB_dec];exact decide_eq_false e
   rw[if_neg e]at hv
   refine S3 @g2 @k6 @q1 ?_
   refine CT (J0 (R0 ?_))
   refine T0 ?_
   exact⟨_,Thin.refl _,by rw[hv]⟩
def Clean(d:Dsk):Prop:=∀i s,d.poss i s→s=d.sector i
def Xt(a:Arc):List Bool:=qd a.head.n.toNat false
section
variable {key : List UInt8} {a : Arc} {ep st : Int} {G : List Bool}
theorem sure_falses(d:Dsk)(n:Nat):Sure a d (qd n false):=fun k b hk _=>by
 rw[qk]at hk
 split at hk<;>cases hk
theorem falses_len(hk:ArcOk key a):((Xt a).length:Int)=a.head.n:=by
 have:=Ur hk.may
 unfold Xt
 rw[qf];omega
theorem begin_fresh(hk:ArcOk key a)(hl:a.blocks.length≤6){d:Dsk}(hn:20≤d.old.length)(hd:d.dead=false):Dep.begin d (U3 key ep st) a.head=Dep.begun d (U3 key ep st) a.head 0 13:=by
 have h1:=Ur hk.may
 have h2:=hk.len
 unfold Dep.begin
 rw[if_neg (by rw[hd];decide),if_neg (by show¬a.head.verify key≠0;simp[hk.ver]),d0_head,if_neg (by simp),d0_places]
 have:QR (U3 key ep st).opn 0=some 0:=rfl
 rw[this]
 show(match VR 13 (d.old.length:Int) a.head.n []with|none=>_|some base=>_)=_
 rw[room_first _ a.head.n (by omega) (by omega) (by omega)]
theorem sess_begin{e:Nat}{d:Dsk}{P:List Bool→Prop}(hk:ArcOk key a)(hl:a.blocks.length≤6)(h:Hist a d e P)(hc:Clean d)(h1:Qg (d.sector 1)=[])(h5:Qg (d.sector 5)=[])(hd:d.dead=false):
 (Dep.begin d (U3 key ep st) a.head).2.2=0∧(Dep.begin d (U3 key ep st) a.head).2.1=Z2 key a ep st (Xt a)∧Sess a e (Dep.begin d (U3 key ep st) a.head).1 (Xt a) (Xt a)∧(Dep.begin d (U3 key ep st) a.head).1.dead=false∧(d.live→(Dep.begin d (U3 key ep st) a.head).1.live)
 ∨¬d.live∧(Dep.begin d (U3 key ep st) a.head).2.2=7∧(Dep.begin d (U3 key ep st) a.head).2.1=U3 key ep st∧Hist a (Dep.begin d (U3 key ep st) a.head).1 e (fun X=>X=Xt a)∧(Dep.begin d (U3 key ep st) a.head).1.dead=true:=by
 have hn40:=h.n
 have hm:=ext_may hk hl
 rw[begin_fresh hk hl hn40 hd]
 obtain⟨W,hW⟩:∃W,W=d.write ((1+0:Nat):Int) (Zp a (Xt a)):=⟨_,rfl⟩
 obtain⟨Y,hY⟩:∃Y,Y=W.1.sync:=⟨_,rfl⟩
 have hrest:Dep.begun d (U3 key ep st) a.head 0 13=(if W.2≠0 then(W.1,U3 key ep st,W.2)else if Y.2≠0 then(Y.1,U3 key ep st,Y.2)else(Y.1,Z2 key a ep st (Xt a),0)):=by
  rw[hY,hW];rfl
 obtain⟨Z,hZ⟩:∃Z,Z=Dep.begun d (U3 key ep st) a.head 0 13:=⟨_,rfl⟩
 rw[←hZ]at hrest ⊢
 have hi:1+0<d.old.length:=by omega
 have hx:(Zp a (Xt a)).length≤256:=by unfold Zp;rw[jouText_len hm];decide
 have hist0:Hist a d e (fun X=>X=Xt a):=⟨h.ok,h.n,h.s0,h.free,fun s hs=>.inl (by rw[hc 1 s hs];exact h1),fun s hs=>.inl (by rw[hc 5 s hs];exact h5)⟩
 have hist1:Hist a W.1 e (fun X=>X=Xt a):=by rw[hW];exact hist0.record hx (.inr ⟨Xt a,falses_len hk,rfl,rfl,sure_falses _ _⟩)
 have hWn:0<W.1.old.length:=by have:=hist1.n;omega
 have wp:∀i t,W.1.poss i t→d.poss i t∨(i=1+0∧t=Jo (Zp a (Xt a))):=fun i t ht=>by rw[hW]at ht;exact Dsk.write_poss hi hx ht
 by_cases w0:W.2=0
 ·rw[if_neg (by simp[w0])]at hrest
  have wa:=Dsk.write_alive hi hx (by rw[←hW];exact w0)
  rw[←hW]at wa
  have ws:W.1.sector 1=Jo (Zp a (Xt a)):=by rw[hW];exact write_new hi hx (by rw[←hW];exact w0)
  have hist2:Hist a Y.1 e (fun X=>X=Xt a):=by rw[hY];exact hist1.sync
  by_cases y0:Y.2=0
  ·left
   rw[if_neg (by simp[y0])]at hrest
   have ya:=sync_alive hWn (by rw[←hY];exact y0)
   rw[←hY]at ya
   rw[hrest]
   refine⟨rfl,rfl,⟨hist2.weaken (qp _) fun X hX=>.inl hX,falses_len hk,?_,sure_falses _ _,?_,?_⟩,ya.2,fun hlv=>?_⟩
   ·show Y.1.sector 1=_
    rw[hY,Dsk.sync_sector hWn (by have:=hist1.n;omega),ws]
   ·intro s hs
    have hs:Y.1.poss 1 s:=hs
    rw[hY]at hs
    right
    rw[Dsk.sync_done hWn (by rw[←hY];exact y0) hs,ws]
   ·intro s hs
    have hs:Y.1.poss 5 s:=hs
    rw[hY]at hs
    rcases wp 5 s (Dsk.sync_poss hWn hs)with q|⟨q,_⟩
    ·rw[hc 5 s q];exact h5
    ·omega
   ·show Y.1.live
    rw[hY]
    refine(Dsk.sync_live hWn ?_).2
    rw[hW]
    exact(Dsk.write_live hi hx hlv).2
  ·right
   rw[if_pos y0]at hrest
   have yb:=sync_bad hWn wa.2 (by rw[←hY];exact y0)
   rw[←hY]at yb
   rw[hrest]
   refine⟨fun hlv=>?_,yb.1,rfl,hist2,yb.2.1⟩
   apply y0
   rw[hY]
   refine(Dsk.sync_live hWn ?_).1
   rw[hW]
   exact(Dsk.write_live hi hx hlv).2
 ·right
  rw[if_pos w0]at hrest
  have wb:=Ug hi hx hd (by rw[←hW];exact w0)
  rw[←hW]at wb
  rw[hrest]
  refine⟨fun hlv=>?_,wb.1,rfl,hist1,wb.2.1⟩
  apply w0
  rw[hW]
  exact(Dsk.write_live hi hx hlv).1
theorem take_filled{b:List UInt8}(hb:b.length=224):(Jo b).take 224=b:=by unfold Jo;rw[←hb,List.take_left]
theorem blocks_sure(hk:ArcOk key a)(hl:a.blocks.length≤6){d:Dsk}(hn:20≤d.old.length)(hd:d.dead=false)(h:Sure a d (qd a.blocks.length true)):Xk d a.ext=(a.blocks,0):=by
 have h2:=hk.len
 have hnn:a.ext.head.n.toNat=a.blocks.length:=by show a.head.n.toNat=_;omega
 unfold Xk
 rw[if_neg (by rw[hd];simp),hnn]
 congr 1
 apply List.ext_getElem?
 intro i
 rw[List.getElem?_map]
 by_cases hi:i<a.blocks.length
 ·have hb:a.blocks[i]?=some (a.blocks[i]):=qr hi
  rw[List.getElem?_range hi,hb,Option.map_some]
  congr 1
  have:=h i (a.blocks[i]) (by rw[qk,if_pos hi]) hb (d.sector (13+i)) (Dsk.poss_sector (by omega))
  show(d.sector (13+i)).take 224=_
  rw[this,take_filled (hk.size _ (List.getElem_mem hi))]
 ·rw[List.getElem?_eq_none (by simp;omega),List.getElem?_eq_none (by omega)]
  rfl
theorem free_d1:QR (Z2 key a ep st G).kept 0=some 0:=rfl
theorem sess_commit{e:Nat}{d:Dsk}{Gp:List Bool}(hk:ArcOk key a)(hl:a.blocks.length≤6)(hG:G=qd a.blocks.length true)(h:Sess a e d Gp G)(hd:d.dead=false):
 (Dep.commit d (Z2 key a ep st G) a.head.id).2.2=0∧(Dep.commit d (Z2 key a ep st G) a.head.id).2.1=Dp2 key a ep st∧Hist a (Dep.commit d (Z2 key a ep st G) a.head.id).1 e (fun _=>True)∧(∀s,(Dep.commit d (Z2 key a ep st G) a.head.id).1.poss 5 s→s=Jo (Q4 a.ext))∧
  Sure a (Dep.commit d (Z2 key a ep st G) a.head.id).1 (qd a.blocks.length true)∧(Dep.commit d (Z2 key a ep st G) a.head.id).1.dead=false∧(d.live→(Dep.commit d (Z2 key a ep st G) a.head.id).1.live)
 ∨¬d.live∧(Dep.commit d (Z2 key a ep st G) a.head.id).2.2=7∧Hist a (Dep.commit d (Z2 key a ep st G) a.head.id).1 e (fun _=>True):=by
 have hn40:=h.hist.n
 have hm:=ext_may hk hl
 have hsure:=h.sure
 rw[hG]at hsure
 obtain⟨W,hW⟩:∃W,W=d.write ((5+0:Nat):Int) (Q4 a.ext):=⟨_,rfl⟩
 obtain⟨Y,hY⟩:∃Y,Y=W.1.sync:=⟨_,rfl⟩
 obtain⟨U,hU⟩:∃U,U=Y.1.write ((1+0:Nat):Int) []:=⟨_,rfl⟩
 have hrest:Dep.commit d (Z2 key a ep st G) a.head.id=(if W.2≠0 then(W.1,Z2 key a ep st G,W.2)else if Y.2≠0 then(Y.1,Z2 key a ep st G,Y.2)else(U.1,Dp2 key a ep st,U.2)):=by
  unfold Dep.commit
  rw[if_neg (by rw[hd];decide),d1_ext,d1_rec]
  simp only
  rw[if_neg (by rw[hG];simp),blocks_sure hk hl hn40 hd hsure]
  simp only
  rw[if_neg (by show¬str (rootV a.blocks)≠a.head.root;rw[hk.root];simp),free_d1]
  simp only
  have hkeep:Dep.keep d (Z2 key a ep st G) 0 a.ext=(if W.2≠0 then(W.1,Z2 key a ep st G,W.2)else if Y.2≠0 then(Y.1,Z2 key a ep st G,Y.2)else(Y.1,{ Z2 key a ep st G with kept:=(Z2 key a ep st G).kept.set 0 (some a.ext) },0)):=by rw[hY,hW];rfl
  rw[hkeep]
  by_cases w0:W.2=0
  ·by_cases y0:Y.2=0
   ·simp only[w0,y0,ne_eq,not_true_eq_false,if_false]
    rw[hU]
    rfl
   ·simp only[w0,y0,ne_eq,not_true_eq_false,not_false_eq_true,if_false,if_true]
  ·simp only[w0,ne_eq,not_false_eq_true,if_true]
 obtain⟨Z,hZ⟩:∃Z,Z=Dep.commit d (Z2 key a ep st G) a.head.id:=⟨_,rfl⟩
 rw[←hZ]at hrest ⊢
 have hi:5+0<d.old.length:=by omega
 have hx:(Q4 a.ext).length≤256:=by rw[catText_len hm];decide
 have hist0:Hist a d e (fun _=>True):=h.hist.weaken (qp _) fun _ _=>trivial
 have hist1:Hist a W.1 e (fun _=>True):=by rw[hW];exact hist0.cat hx hsure
 have hWn:0<W.1.old.length:=by have:=hist1.n;omega
 have wp:∀i t,W.1.poss i t→d.poss i t∨(i=5+0∧t=Jo (Q4 a.ext)):=fun i t ht=>by rw[hW]at ht;exact Dsk.write_poss hi hx ht
 by_cases w0:W.2=0
 ·rw[if_neg (by simp[w0])]at hrest
  have wa:=Dsk.write_alive hi hx (by rw[←hW];exact w0)
  rw[←hW]at wa
  have ws:W.1.sector 5=Jo (Q4 a.ext):=by rw[hW];exact write_new hi hx (by rw[←hW];exact w0)
  have hist2:Hist a Y.1 e (fun _=>True):=by rw[hY];exact hist1.sync
  by_cases y0:Y.2=0
  ·rw[if_neg (by simp[y0])]at hrest
   have ya:=sync_alive hWn (by rw[←hY];exact y0)
   rw[←hY]at ya
   have y5:∀s,Y.1.poss 5 s→s=Jo (Q4 a.ext):=fun s hs=>by
    rw[hY]at hs
    rw[Dsk.sync_done hWn (by rw[←hY];exact y0) hs,ws]
   have hi1:1+0<Y.1.old.length:=by have:=hist2.n;omega
   have hx1:([]:List UInt8).length≤256:=by decide
   have up:∀i t,U.1.poss i t→Y.1.poss i t∨(i=1+0∧t=Jo []):=fun i t ht=>by rw[hU]at ht;exact Dsk.write_poss hi1 hx1 ht
   have hist3:Hist a U.1 e (fun _=>True):=by rw[hU];exact hist2.record hx1 (.inl rfl)
   have sureY:Sure a Y.1 (qd a.blocks.length true):=by
    rw[hY]
    refine(hsure.less (d':=W.1) fun i t hi ht=>?_).less fun i t hi ht=>.inl (Dsk.sync_poss hWn ht)
    rcases wp i t ht with q|⟨q,_⟩
    ·exact .inl q
    ·omega
   by_cases u0:U.2=0
   ·left
    have ua:=Dsk.write_alive hi1 hx1 (by rw[←hU];exact u0)
    rw[←hU]at ua
    rw[hrest]
    refine⟨u0,rfl,hist3,fun s hs=>?_,?_,ua.2,fun hlv=>?_⟩
    ·rcases up 5 s hs with q|⟨q,_⟩
     ·exact y5 s q
     ·omega
    ·refine sureY.less fun i t hi ht=>?_
     rcases up i t ht with q|⟨q,_⟩
     ·exact .inl q
     ·omega
    ·show U.1.live
     rw[hU]
     refine(Dsk.write_live hi1 hx1 ?_).2
     rw[hY]
     refine(Dsk.sync_live hWn ?_).2
     rw[hW]
     exact(Dsk.write_live hi hx hlv).2
   ·right
    have ub:=Ug hi1 hx1 ya.2 (by rw[←hU];exact u0)
    rw[←hU]at ub
    rw[hrest]
    refine⟨fun hlv=>?_,ub.1,hist3⟩
    apply u0
    rw[hU]
    refine(Dsk.write_live hi1 hx1 ?_).1
    rw[hY]
    refine(Dsk.sync_live hWn ?_).2
    rw[hW]
    exact(Dsk.write_live hi hx hlv).2
  ·right
   rw[if_pos y0]at hrest
   have yb:=sync_bad hWn wa.2 (by rw[←hY];exact y0)
   rw[←hY]at yb
   rw[hrest]
   refine⟨fun hlv=>?_,yb.1,hist2⟩
   apply y0
   rw[hY]
   refine(Dsk.sync_live hWn ?_).1
   rw[hW]
   exact(Dsk.write_live hi hx hlv).2
 ·right
  rw[if_pos w0]at hrest
  have wb:=Ug hi hx hd (by rw[←hW];exact w0)
  rw[←hW]at wb
  rw[hrest]
  refine⟨fun hlv=>?_,wb.1,hist1⟩
  apply w0
  rw[hW]
  exact(Dsk.write_live hi hx hlv).1
end
end Go.Proofs.YteccmcpaheepcaaGreatDoor
namespace Go.Proofs.YteccmcpaheepcaaGreatDoor
open Go.RowKit Abs Stab
def V9(h:Ext):Int:=h.base
def SmallE(L:List Ext):Prop:=∀h∈L, -1099511627776≤h.base∧h.base≤1099511627776
theorem exl_len(h:Ext):h.cells.length=8:=rfl
theorem exl_one(h:Ext):Jk h.cells=true:=rfl
def ZH(M:Mem)(g:Nat)(L:List Ext):Prop:=M.get g=some (.cells false 8 (L.flatMap Ext.cells))
theorem exl_row{M:Mem}{g:Nat}{L:List Ext}(h:ZH M g L){k:Nat}{x:Ext}(hx:L[k]?=some x):Jp 8 (k*8) (M.get g)=some (.agg x.cells.toArray):=by
 rw[show M.get g=_ from h]
 exact rowIn_at (n:=8) (fun a _=>exl_len a) hx false 8
theorem exl_put{M:Mem}{g:Nat}{L:List Ext}(h:ZH M g L){k:Nat}{x:Ext}(hx:L[k]?=some x)(y:Ext):∃M',Jg 8 M g (k*8) y.cells (M.get g)=some M'∧ZH M' g (L.set k y)∧Only [g] M M'∧M'.size=M.size:=by
 refine⟨_,?_,Mem.get_set_same h _,Only.set (by simp) _,Mem.size_set _ _ _⟩
 rw[show M.get g=_ from h]
 exact putIn_at (fun a _=>exl_len a) hx y (exl_len y) (exl_one y) M g 8
def cmpE:Value:=.func (.func 138) #[] #[]
theorem cmpe_spec(a b:Ext)(ha: -1099511627776≤a.base∧a.base≤1099511627776)(hb: -1099511627776≤b.base∧b.base≤1099511627776)(m:Mem):
 Abs.Spec qc 138 [.agg a.cells.toArray,.agg b.cells.toArray] m fun u M=>u=.int .i64 (a.base-b.base)∧M=m:=by
 refine Abs.Spec.of_empty (by intro x hx;simp at hx;rcases hx with rfl|rfl<;>rfl) rfl ?_ m
 have w:IntKind.i64.wrap (a.base-b.base)=a.base-b.base:=Xx (by omega) (by omega)
 have b1:QG qc 102 (.agg a.cells.toArray)=some (.cells false (J6 qc 102) a.cells):=Kb _ rfl
 have b2:QG qc 102 (.agg b.cells.toArray)=some (.cells false (J6 qc 102) b.cells):=Kb _ rfl
 generalize J6 qc 102=s1 at b1 b2
 have c1:∀h:Ext,cellIn 7 (some (.cells false s1 h.cells))=some (.int .i64 h.base):=fun h=>rfl
 have g1:(((⟨[]⟩:Mem).push (.cells false s1 a.cells)).push (.cells false s1 b.cells)).get (⟨[]⟩:Mem).size=some (.cells false s1 a.cells):=rfl
 have g2:(((⟨[]⟩:Mem).push (.cells false s1 a.cells)).push (.cells false s1 b.cells)).get ((⟨[]⟩:Mem).push (.cells false s1 a.cells)).size=some (.cells false s1 b.cells):=rfl
 refine WM Tryz.func138 Tryz.results138 Tryz.ntmps138 fun _=>?_
 refine J0 (R2 @b1 @b2 ?_)
 refine J0 (R4 @g1 @g2 @c1 @w ?_)
 refine T0 ?_
 first|exact⟨_,Thin.refl _,rfl⟩|exact⟨_,Thin.refl _⟩|exact⟨_,Thin.refl _,rfl,rfl⟩
theorem swap_adjE(P Q:List Ext)(x y:Ext):((P++y::x::Q).set (P.length+1) y).set P.length x=P++x::y::Q:=by
 rw[List.set_append_right _ _ (by omega),show P.length+1-P.length=1 by omega,List.set_cons_succ,List.set_cons_zero,set_mid]
theorem at_midE(P Q:List Ext)(x:Ext):(P++x::Q)[P.length]?=some x:=by simp
theorem at_midE1(P Q:List Ext)(x y:Ext):(P++y::x::Q)[P.length+1]?=some x:=by
 rw[List.getElem?_append_right (by omega)]
 simp
theorem inse_spec(g n c:Nat)(M:Mem)(A X B:List Ext)(hg:ZH M g (A++X++B))(hn:(A++X++B).length=n)(hn2:n≤1000000)(hs:SmallE (A++X++B)):
 Abs.Spec qc 267 [.slice (some ⟨g,0,none⟩) n c,.int .i64 (A.length:Nat),.int .i64 ((A.length+X.length:Nat):Int),cmpE] M
  fun u M'=>u=.tuple #[]∧(∃R,Stable V9 X R∧ZH M' g (A++R++B))∧Only [g] M M'∧M'.size=M.size:=by
 unfold cmpE
 refine UH Tryz.func267 Tryz.results267 Tryz.ntmps267 fun hc hx k=>?_
 have hlen:A.length+X.length+B.length=n:=by rw[←hn];simp only[qe]
 have w0:IntKind.i64.wrap (((A.length:Nat):Int)+1)=((A.length+1:Nat):Int):=by rw[Xx (by omega) (by omega)];omega
 refine J0 (R1 @w0 ?_)
 refine J8 (Jq (fun j f M'=>∃(i:Nat)(R Q:List Ext),j=n+1-i∧f=[(0,.slice (some ⟨g,0,none⟩) n c),(1,.int .i64 (A.length:Nat)),(2,.int .i64 ((A.length+X.length:Nat):Int)),(3,.func (.func 138) #[] #[]),(8,.int .i64 (i:Nat))]∧
  i≤n+1∧((i=A.length+R.length∧R≠ [])∨(X=[]∧i=A.length+1))∧(∃X1,X=X1++Q∧Stable V9 X1 R)∧ZH M' g (A++R++Q++B)∧Only [g] M M'∧M'.size=M.size) (n+1-(A.length+1)) ?_ ?_)
 ·refine JK [0,1,2,3,8] ?_
  cases hX:X with
  |nil=>exact⟨M,Thin.refl _,A.length+1,[],[],rfl,by simp,by omega,.inr ⟨rfl,rfl⟩,⟨[],rfl,Stable.refl _ qt.nil⟩,by rw[hX]at hg;simpa using hg,Only.refl _ _,rfl⟩
  |cons x Q=>exact⟨M,Thin.refl _,A.length+1,[x],Q,rfl,by simp,by rw[hX]at hlen;simp only[List.length_cons]at hlen;omega,.inl ⟨rfl,by simp⟩,⟨[x],rfl,Stable.refl _ (List.pairwise_singleton _ _)⟩,by rw[hX]at hg;simpa using hg,Only.refl _ _,rfl⟩
 ·rintro j f M' ⟨i,R,Q,rfl,rfl,hi,hiR,⟨X1,hX1,hst⟩,hg',ho,hsz⟩
  refine J0 (J0 (R0 ?_))
  refine CC (decide ((i:Int)<((A.length+X.length:Nat):Int))) (fun h=>J4 ?_) (fun h=>Jr ?_)
  ·have h:=of_decide_eq_true h
   obtain⟨hiA,hRne⟩:i=A.length+R.length∧R≠ []:=by
    rcases hiR with h1|⟨h1,h2⟩
    ·exact h1
    ·rw[h1,qw]at h;omega
   have hl1:=hst.len
   obtain⟨x,Q',rfl⟩:∃x Q',Q=x::Q':=by
    cases Q with
    |nil=>rw[hX1,qh]at h;omega
    |cons x Q'=>exact⟨x,Q',rfl⟩
   have hXl:X.length=X1.length+(Q'.length+1):=by rw[hX1];simp
   have hsm:∀y,y∈R∨y=x→ -1099511627776≤y.base∧y.base≤1099511627776:=fun y hy=>hs y (by
    rw[hX1]
    rcases hy with hy|rfl
    ·rw[hst.mem]at hy;simp[hy]
    ·simp)
   simp only[zZ,reduceIte,yQ,yW,yX,yZ,yJ,yK,yV]
   refine Xv (fun f M2=>∃R2,f=[(0,.slice (some ⟨g,0,none⟩) n c),(1,.int .i64 (A.length:Nat)),(2,.int .i64 ((A.length+X.length:Nat):Int)),(3,.func (.func 138) #[] #[]),(8,.int .i64 (i:Nat))]∧Stable V9 (X1++[x]) R2∧ZH M2 g (A++R2++Q'++B)∧Only [g] M M2∧M2.size=M.size) ?_ ?_
   ·refine J8 (J0 (R0 ?_))
    refine J8 (Jq (fun jj f M2=>∃(j:Nat)(R1 R2:List Ext),jj=j∧f=[(0,.slice (some ⟨g,0,none⟩) n c),(1,.int .i64 (A.length:Nat)),(2,.int .i64 ((A.length+X.length:Nat):Int)),(3,.func (.func 138) #[] #[]),(8,.int .i64 (i:Nat)),(9,.int .i64 (j:Nat))]∧
     R=R1++R2∧j=A.length+R1.length∧(∀y∈R2,x.base<y.base)∧ZH M2 g (A++R1++x::R2++Q'++B)∧Only [g] M M2∧M2.size=M.size) i ?_ ?_)
    ·refine JK [0,1,2,3,8,9] ?_
     exact⟨M',Thin.refl _,i,R,[],rfl,rfl,by simp,hiA,by simp,by simpa using hg',ho,hsz⟩
    ·rintro j f M2 ⟨_,R1,R2,rfl,rfl,hRR,hj,hgt,hg2,ho2,hsz2⟩
     have done:(∀y∈R1,y.base≤x.base)→∀(f:AL),AL.get f 0=some (.slice (some ⟨g,0,none⟩) n c)→AL.get f 1=some (.int .i64 (A.length:Nat))→AL.get f 2=some (.int .i64 ((A.length+X.length:Nat):Int))→AL.get f 3=some (.func (.func 138) #[] #[])→AL.get f 8=some (.int .i64 (i:Nat))→
      @JoinM f M2 ⟨fun f M2=>∃R2,f=[(0,.slice (some ⟨g,0,none⟩) n c),(1,.int .i64 (A.length:Nat)),(2,.int .i64 ((A.length+X.length:Nat):Int)),(3,.func (.func 138) #[] #[]),(8,.int .i64 (i:Nat))]∧Stable V9 (X1++[x]) R2∧ZH M2 g (A++R2++Q'++B)∧Only [g] M M2∧M2.size=M.size⟩:=fun hle f h0 h1 h2 h3 h8=>by
      refine⟨[0,1,2,3,8],?_⟩
      simp only[keepF,h0,h1,h2,h3,h8,zZ,reduceIte,yQ,yW,yX,yZ,yJ,yK,yV]
      have hst2:Stable V9 (R++[x]) (R1++x::R2):=by
       rw[hRR]
       exact UX V9 (by rw[←hRR];exact hst.rising) (fun y hy=>hle y hy) (fun y hy=>hgt y hy)
      have hst3:Stable V9 (X1++[x]) (R1++x::R2):=hst2.of_keys V9 (fun k=>by rw[Xe,Xe,hst.keys]) (by simp[hst.len])
      exact⟨M2,Thin.refl _,R1++x::R2,hst3,by simpa using hg2,ho2,hsz2⟩
     refine J0 (J0 (QY hmix 14 (by kernel_rfl) (by kernel_rfl) ?_))
     rcases List.eq_nil_or_concat R1 with rfl|⟨R1',y,rfl⟩
     ·have q1:decide ((A.length:Int)<(j:Int))=false:=decide_eq_false (by rw[hj];simp)
      refine S1 @q1 ?_
      refine CF (Jr ?_)
      simp only[zZ,reduceIte,yQ,yW,yX,yZ,yJ,yK,yV]
      exact done (by simp) _ rfl rfl rfl rfl rfl
     ·obtain⟨P,hP⟩:∃P,P=A++R1':=⟨_,rfl⟩
      obtain⟨T,hT⟩:∃T,T=R2++Q'++B:=⟨_,rfl⟩
      have hL:A++R1'.concat y++x::R2++Q'++B=P++y::x::T:=by rw[hP,hT];simp
      rw[hL]at hg2
      have hjP:j=P.length+1:=by rw[hj,hP];simp;omega
      have hn3:P.length+1<n:=by
       have e:=congrArg List.length hRR
       simp only[qe,List.length_concat]at e
       rw[hP,qe]
       omega
      have q1:decide ((A.length:Int)<(j:Int))=true:=decide_eq_true (by rw[hjP,hP,qe];omega)
      have r1:=exl_row hg2 (at_midE1 P T x y)
      have r0:=exl_row hg2 (at_midE P (x::T) y)
      have w1:IntKind.i64.wrap ((j:Int)-1)=((P.length:Nat):Int):=by rw[Xx (by omega) (by omega)];omega
      have z1:(0:Int)≤(j:Int):=by omega
      have z2:(j:Int)<(n:Int):=by omega
      have z3:(0:Int)≤((P.length:Nat):Int):=by omega
      have z4:((P.length:Nat):Int)<(n:Int):=by omega
      rw[←hjP]at r1
      refine S9 @q1 @w1 @z1 @z2 @z3 @z4 @and_self @r0 @r1 ?_
      have sx:=hsm x (.inr rfl)
      have sy:=hsm y (.inl (by rw[hRR];simp))
      refine⟨by kernel_rfl,_,cmpe_spec x y sx sy M2,?_⟩
      rintro _ M9 ⟨rfl,e9⟩;replace e9:=e9.symm;subst e9
      refine⟨by decide,?_⟩
      refine S0 ?_
      refine CC (decide (x.base-y.base<0)) (fun h=>J4 ?_) (fun h=>Jr ?_)
      ·have h:=of_decide_eq_true h
       obtain⟨M3,hp3,hg3,ho3,hs3⟩:=exl_put hg2 (show(P++y::x::T)[j]?=some x by rw[hjP];exact at_midE1 P T x y) y
       have hx3:((P++y::x::T).set j y)[P.length]?=some y:=by
        rw[qo (by omega)];exact at_midE P (x::T) y
       obtain⟨M4,hp4,hg4,ho4,hs4⟩:=exl_put hg3 hx3 x
       rw[hjP,swap_adjE]at hg4
       simp only[zZ,reduceIte,yQ,yW,yX,yZ,yJ,yK,yV]
       refine J0 (J8 (CW_draw4 hmix 15 [2,3,4] (by kernel_rfl) ?_))
       simp only[sQB,Zd,Option.bind_some,zZ,reduceIte,yQ,yW,yX,yZ,yJ,yK,yV,zDk,Jc,Jd,Ja,J9,XX,w1,z1,z2,z3,z4,and_self,r0,r1,hp3,hp4]
       refine⟨⟨⟨_,rfl⟩,⟨_,rfl⟩,⟨_,rfl⟩⟩,?_⟩
       refine R1 @w1 ?_
       refine JK [0,1,2,3,8,9] ?_
       refine⟨M4,Thin.refl _,P.length,⟨P.length,R1',y::R2,rfl,rfl,by rw[hRR];simp,by rw[hP,qe],?_,?_,ho2.trans (ho3.trans ho4),by omega⟩,by omega⟩
       ·intro z hz
        rcases qi.1 hz with rfl|hz
        ·omega
        ·exact hgt z hz
       ·have e:A++R1'++x::(y::R2)++Q'++B=P++x::y::T:=by rw[hP,hT];simp
        rw[e];exact hg4
      ·have h:=of_decide_eq_false h
       simp only[zZ,reduceIte,yQ,yW,yX,yZ,yJ,yK,yV]
       refine done (fun z hz=>?_) _ rfl rfl rfl rfl rfl
       have hr:=hst.rising
       rw[hRR]at hr
       have hr:=(Rising.parts V9 hr).1
       rw[List.concat_eq_append]at hr hz
       rcases qx.1 hz with hz|hz
       ·have:=(Rising.parts V9 hr).2.2 z hz y (by simp)
        unfold V9 at this
        omega
       ·simp only[qz]at hz
        rw[hz];omega
   ·rintro _ M2 ⟨R2,rfl,hst2,hg2,ho2,hsz2⟩
    have hl2:=hst2.len
    have w1:IntKind.i64.wrap ((i:Int)+1)=((i+1:Nat):Int):=by rw[Xx (by omega) (by omega)];omega
    refine R1 @w1 ?_
    refine JK [0,1,2,3,8] ?_
    refine⟨M2,Thin.refl _,n+1-(i+1),⟨i+1,R2,Q',rfl,rfl,by omega,.inl ⟨?_,?_⟩,⟨X1++[x],by rw[hX1];simp,hst2⟩,hg2,ho2,hsz2⟩,by omega⟩
    ·rw[hl2,hiA];simp;omega
    ·intro e;rw[e]at hl2;simp at hl2
  ·have h:=of_decide_eq_false h
   have hl1:=hst.len
   have hQ:Q=[]:=by
    rcases hiR with⟨h1,h2⟩|⟨h1,h2⟩
    ·have:Q.length=0:=by rw[hX1,qe]at h;omega
     exact qj this
    ·rw[h1]at hX1;exact(List.append_eq_nil_iff.1 hX1.symm).2
   simp only[zZ,reduceIte,yQ,yW,yX,yZ,yJ,yK,yV,zDk,Jc,Jd,Ja,J9,XX,mEnd,sAnswer,sAnswer.sRes]
   rw[hQ,qh]at hg' hX1
   exact⟨M',Thin.refl _,⟨R,by rw[hX1];exact hst,hg'⟩,ho,hsz⟩
theorem blen_spec(x:Int)(h0:0≤x)(h1:x≤18446744073709551615)(m:Mem):
 Abs.Spec qc 146 [.int .u64 x] m fun u M=>u=.int .i64 (Lib.bitLen x.toNat)∧M=m:=
 Abs.Spec.of_flat (by simp[flat]) rfl fun w=>(Tryz.bits_Len x w h0 h1).mono fun e w' h=>⟨h.1,by rw[h.2];exact Below.refl _ _⟩
theorem pdqe_spec(g n c:Nat)(lim:Int)(M:Mem)(L:List Ext)(hg:ZH M g L)(hn:L.length=n)(hn2:n≤12)(hs:SmallE L):
 Abs.Spec qc 209 [.slice (some ⟨g,0,none⟩) n c,.int .i64 0,.int .i64 (n:Nat),.int .i64 lim,cmpE] M
  fun u M'=>u=.tuple #[]∧(∃R,Stable V9 L R∧ZH M' g R)∧Only [g] M M'∧M'.size=M.size:=by
 unfold cmpE
 refine UH Tryz.func209 Tryz.results209 Tryz.ntmps209 fun hc hx k=>?_
 have w0:IntKind.i64.wrap ((n:Int)-0)=(n:Int):=by rw[Xx (by omega) (by omega)];omega
 have q1:decide ((n:Int)≤12)=true:=decide_eq_true (by omega)
 have is:=inse_spec g n c M [] L [] (by simpa using hg) (by simpa using hn) (by omega) (by simpa using hs)
 simp only[qw,Nat.zero_add,hn,qy,qh]at is
 unfold cmpE at is
 refine J0 (R0 ?_)
 refine J0 (R0 ?_)
 refine J8 (Jq (fun j f M'=>j=0∧f=[(0,.slice (some ⟨g,0,none⟩) n c),(1,.int .i64 0),(2,.int .i64 (n:Nat)),(4,.func (.func 138) #[] #[])]∧M'=M) 0 ?_ ?_)
 ·refine JK [0,1,2,4] ?_
  exact⟨M,Thin.refl _,rfl⟩
 ·rintro j f M' ⟨rfl,rfl,e9⟩
  replace e9:=e9.symm;subst e9
  refine J8 (J0 (R1 @w0 ?_))
  refine J0 (J0 (R1 @q1 ?_))
  refine CT (J0 (R0 ?_))
  refine⟨by kernel_rfl,_,is,?_⟩
  rintro _ M2 ⟨rfl,hR,ho,hsz⟩
  refine S0 ?_
  refine T0 ?_
  exact⟨_,Thin.refl _,hR,ho,hsz⟩
theorem sorte_spec(g n c:Nat)(M:Mem)(L:List Ext)(hg:ZH M g L)(hn:L.length=n)(hn2:n≤12)(hs:SmallE L):
 Abs.Spec qc 137 [.slice (some ⟨g,0,none⟩) n c,cmpE] M
  fun u M'=>u=.tuple #[]∧(∃R,Stable V9 L R∧ZH M' g R)∧Only [g] M M'∧M'.size=M.size:=by
 unfold cmpE
 refine UH Tryz.func137 Tryz.results137 Tryz.ntmps137 fun hc hx k=>?_
 have bl:=fun m=>blen_spec (n:Int) (by omega) (by omega) m
 have w0:IntKind.u64.wrap (n:Int)=(n:Int):=by unfold IntKind.wrap;simp[IntKind.bits,IntKind.signed];omega
 have pq:=fun lim=>pdqe_spec g n c lim M L hg hn hn2 hs
 unfold cmpE at pq
 refine J0 (R0 ?_)
 refine R1 @w0 ?_
 refine K0 (bl _) ?_
 refine⟨by kernel_rfl,_,pq _,?_⟩
 rintro _ M2 ⟨rfl,hR,ho,hsz⟩
 simp only[zZ,reduceIte,yQ,yW,yX,yZ,yJ,yK,yV,zDk,Jc,Jd,Ja,J9,XX,mEnd,sAnswer,sAnswer.sRes]
 exact⟨_,Thin.refl _,hR,ho,hsz⟩
theorem new_ext0:Jy qc 128 0 []=some (.cells false 8 []):=by kernel_rfl
theorem es_eql0(cx:Bool):aBin qc .eql 128 cx (.slice none 0 0) (.slice none 0 0)=some (.bool true):=by cases cx<;>kernel_rfl
theorem es_eql(cx:Bool)(a:Addr)(n c:Nat):aBin qc .eql 128 cx (.slice (some a) n c) (.slice none 0 0)=some (.bool false):=by cases cx<;>kernel_rfl
theorem eclone_spec(K:Nat)(M:Mem)(V:Value)(L:List Ext)(h:Vi K M V L)(hl:L.length≤1000000):
 Abs.Spec qc 136 [V] M fun u M'=>Vi M.size M' u L∧Only [] M M'∧M.size≤M'.size:=by
 refine UH Tryz.func136 Tryz.results136 Tryz.ntmps136 fun hc hx k=>?_
 refine J0 (R0 ?_)
 rcases h with⟨rfl,rfl⟩|⟨h0,g,hgk,rfl,hg⟩
 ·refine J0 (J0 (R1 @es_eql0 ?_))
  refine CT (J0 (R0 ?_))
  refine T0 ?_
  exact⟨M,Thin.refl _,.inl ⟨rfl,rfl⟩,Only.refl _ _,qp _⟩
 ·refine J0 (J0 (R1 @es_eql ?_))
  refine CF (J4 ?_)
  simp only[zZ,reduceIte,yQ,yW,yX,yZ,yJ,yK,yV]
  have hgl:=Mem.get_lt hg
  have hpos:=List.length_pos_iff.2 h0
  have hby:=Ext_bytes
  have hsrc:=src_block (P:=qc) (tx:=128) (m:=M.push (.cells false 8 [])) (c:=L.length) (k:=L.length) (N:=8) (news:=L.flatMap Ext.cells) (ro:=false) (s:=8) Tryz.underlying128 (by rw[Mem.get_push_old hgl];exact hg) (by rw[flat_length (fun a=>ext_len a)])
  have ha:=gapp (P:=qc) (N:=8) (k:=L.length) (n:=0) (g:=M.size) (cs:=[]) (news:=L.flatMap Ext.cells) Tryz.underlying128 inf_Ext Ext_zero sz_Ext rfl (M.push (.cells false 8 [])) hsrc (by omega)
   (Mem.get_push_new M _) rfl (by rw[Nat.zero_add];have:=Nat.mul_le_mul hl hby;omega) (by omega)
  rw[Mem.size_push,Nat.zero_add,qy]at ha
  refine J0 (R2 @new_ext0 @ha ?_)
  refine T0 ?_
  refine⟨_,Thin.refl _,.inr ⟨h0,M.size+1,by omega,rfl,?_⟩,fun b y _ hy=>?_,by simp only[Mem.size_push,Mem.size_set];omega⟩
  ·have:=Mem.get_push_new ((M.push (.cells false 8 [])).set M.size none) (.cells false 8 (L.flatMap Ext.cells))
   rw[Mem.size_set,Mem.size_push]at this
   exact this
  ·have:=Mem.get_lt hy
   rw[Mem.get_push_old (by rw[Mem.size_set,Mem.size_push];omega),Mem.get_set_ne (by omega),Mem.get_push_old this];exact hy
theorem inse_nil(M:Mem):
 Abs.Spec qc 267 [.slice none 0 0,.int .i64 0,.int .i64 0,cmpE] M fun u M'=>u=.tuple #[]∧M'=M:=by
 unfold cmpE
 refine UH Tryz.func267 Tryz.results267 Tryz.ntmps267 fun hc hx k=>?_
 have w0:IntKind.i64.wrap ((0:Int)+1)=1:=by decide
 have q1:decide ((1:Int)<0)=false:=rfl
 refine J0 (R1 @w0 ?_)
 refine J8 (Jq (fun j f M'=>j=0∧f=[(0,.slice none 0 0),(1,.int .i64 0),(2,.int .i64 0),(3,.func (.func 138) #[] #[]),(8,.int .i64 1)]∧M'=M) 0 ?_ ?_)
 ·refine JK [0,1,2,3,8] ?_
  exact⟨M,Thin.refl _,rfl⟩
 ·rintro j f M' ⟨rfl,rfl,e9⟩
  replace e9:=e9.symm;subst e9
  refine J0 (J0 (R2 @q1 @decide_false ?_))
  refine CF (Jr ?_)
  simp only[zZ,reduceIte,yQ,yW,yX,yZ,yJ,yK,yV,zDk,Jc,Jd,Ja,J9,XX,mEnd,sAnswer,sAnswer.sRes]
  exact⟨_,Thin.refl _,rfl⟩
theorem pdqe_nil(lim:Int)(M:Mem):
 Abs.Spec qc 209 [.slice none 0 0,.int .i64 0,.int .i64 0,.int .i64 lim,cmpE] M fun u M'=>u=.tuple #[]∧M'=M:=by
 have is:=inse_nil M
 unfold cmpE at is ⊢
 refine UH Tryz.func209 Tryz.results209 Tryz.ntmps209 fun hc hx k=>?_
 have w0:IntKind.i64.wrap ((0:Int)-0)=0:=by decide
 have q1:decide ((0:Int)≤12)=true:=rfl
 refine J0 (R0 ?_)
 refine J0 (R0 ?_)
 refine J8 (Jq (fun j f M'=>j=0∧f=[(0,.slice none 0 0),(1,.int .i64 0),(2,.int .i64 0),(4,.func (.func 138) #[] #[])]∧M'=M) 0 ?_ ?_)
 ·refine JK [0,1,2,4] ?_
  exact⟨M,Thin.refl _,rfl⟩
 ·rintro j f M' ⟨rfl,rfl,e9⟩
  replace e9:=e9.symm;subst e9
  refine J8 (J0 (R1 @w0 ?_))
  refine J0 (J0 (R2 @q1 @decide_true ?_))
  refine CT (J0 (R0 ?_))
  refine⟨by kernel_rfl,_,is,?_⟩
  rintro _ M2 ⟨rfl,rfl⟩
  refine S0 ?_
  refine T0 ?_
  exact⟨_,Thin.refl _,rfl⟩
theorem sorte_nil(M:Mem):
 Abs.Spec qc 137 [.slice none 0 0,cmpE] M fun u M'=>u=.tuple #[]∧M'=M:=by
 have pq:=fun lim=>pdqe_nil lim M
 unfold cmpE at pq ⊢
 refine UH Tryz.func137 Tryz.results137 Tryz.ntmps137 fun hc hx k=>?_
 have bl:=fun m=>blen_spec 0 (by omega) (by omega) m
 have w0:IntKind.u64.wrap 0=0:=by decide
 refine J0 (R0 ?_)
 refine R1 @w0 ?_
 refine K0 (bl _) ?_
 refine⟨by kernel_rfl,_,pq _,?_⟩
 rintro _ M2 ⟨rfl,rfl⟩
 simp only[zZ,reduceIte,yQ,yW,yX,yZ,yJ,yK,yV,zDk,Jc,Jd,Ja,J9,XX,mEnd,sAnswer,sAnswer.sRes]
 exact⟨_,Thin.refl _,rfl⟩
theorem sorte_own(K:Nat)(M:Mem)(V:Value)(L:List Ext)(h:Vi K M V L)(hl:L.length≤12)(hs:SmallE L):
 Abs.Spec qc 137 [V,cmpE] M
  fun u M'=>u=.tuple #[]∧(∃R,Stable V9 L R∧Vi K M' V R)∧(∀b y,Qz V≠some b→M.get b=some y→M'.get b=some y)∧M'.size=M.size:=by
 rcases h with⟨rfl,rfl⟩|⟨h0,g,hk,rfl,hg⟩
 ·refine(sorte_nil M).mono ?_
  rintro u M' ⟨rfl,rfl⟩
  exact⟨rfl,⟨[],Stable.refl _ qt.nil,OwnL.nil _ _⟩,fun _ _ _ h=>h,rfl⟩
 ·refine(sorte_spec g L.length L.length M L hg rfl hl hs).mono ?_
  rintro u M' ⟨rfl,⟨R,hR,hg'⟩,ho,hsz⟩
  have hlen:=hR.len
  refine⟨rfl,⟨R,hR,.inr ⟨fun e=>h0 (qj (by rw[←hlen,e];rfl)),g,hk,by rw[hlen],hg'⟩⟩,fun b y hb hy=>ho b y (by simp;exact fun e=>hb (by rw[e];rfl)) hy,hsz⟩
end Go.Proofs.YteccmcpaheepcaaGreatDoor
namespace Go.Proofs.YteccmcpaheepcaaGreatDoor
open Go.RowKit Abs
def freeOf(at' n:Int)(x:Ext):Prop:=x.base+x.head.n≤at'∨n≤x.base-at'
theorem freeFor_iff(at' n:Int)(l:List Ext):freeFor at' n l=true↔∀x∈l,freeOf at' n x:=by
 unfold freeFor freeOf
 rw[List.all_eq_true]
 refine forall_congr' fun x=>imp_congr_right fun _=>?_
 by_cases h1:at'<x.base+x.head.n<;>by_cases h2:x.base-at'<n<;>simp[h1,h2]<;>omega
def X3(n:Int):Int→List Ext→Int
 |at',[]=>at'
 |at',x::r=>if n≤x.base-at' then at' else X3 n (max at' (x.base+x.head.n)) r
theorem greedy_spec(n lo:Int)(hn:1≤n)(l:List Ext):∀(r pre:List Ext)(a:Int),l=pre++r→r.Pairwise (fun x y=>x.base≤y.base)→lo≤a→(∀x∈pre,x.base+x.head.n≤a)→(∀b,lo≤b→b<a→∃x∈l,¬freeOf b n x)→
 lo≤X3 n a r∧(∀x∈l,freeOf (X3 n a r) n x)∧∀b,lo≤b→b<X3 n a r→∃x∈l,¬freeOf b n x:=by
 intro r
 induction r with
 |nil=>
  intro pre a hl _ hlo hpre hbl
  rw[X3]
  refine⟨hlo,fun x hx=>?_,hbl⟩
  rw[hl,qh]at hx
  exact .inl (hpre x hx)
 |cons x r ih=>
  intro pre a hl hso hlo hpre hbl
  rw[List.pairwise_cons]at hso
  rw[X3]
  by_cases h:n≤x.base-a
  ·rw[if_pos h]
   refine⟨hlo,fun y hy=>?_,hbl⟩
   rw[hl,qx,qi]at hy
   rcases hy with hy|rfl|hy
   ·exact .inl (hpre y hy)
   ·exact .inr h
   ·have:=hso.1 y hy
    exact .inr (by omega)
  ·rw[if_neg h]
   refine ih (pre++[x]) (max a (x.base+x.head.n)) (by rw[hl];simp) hso.2 (by omega) (fun y hy=>?_) (fun b hb hba=>?_)
   ·rw[qx,qz]at hy
    rcases hy with hy|rfl
    ·have:=hpre y hy;omega
    ·omega
   ·by_cases e:b<a
    ·exact hbl b hb e
    ·refine⟨x,by rw[hl];simp,fun hf=>?_⟩
     unfold freeOf at hf
     omega
theorem roomGo_spec(n:Int)(l:List Ext)(a:Int)(ha:∀x∈l,freeOf a n x):∀(k:Nat)(lo:Int),lo≤a→(∀b,lo≤b→b<a→∃x∈l,¬freeOf b n x)→UM n l k lo=if a<lo+k then some a else none
 |0,lo,h,_=>by rw[UM,if_neg (by omega)]
 |k+1,lo,h,hb=>by
  rw[UM]
  by_cases e:lo=a
  ·subst e
   rw[if_pos ((freeFor_iff _ _ _).2 ha),if_pos (by omega)]
  ·have hnf:¬freeFor lo n l=true:=fun hf=>by
    obtain⟨x,hx,hx2⟩:=hb lo (Int.le_refl _) (by omega)
    exact hx2 ((freeFor_iff _ _ _).1 hf x hx)
   rw[if_neg hnf,roomGo_spec n l a ha k (lo+1) (by omega) fun b h1 h2=>hb b (by omega) h2]
   by_cases h3:a<lo+1+(k:Int)
   ·rw[if_pos h3,if_pos (by omega)]
   ·rw[if_neg h3,if_neg (by omega)]
theorem roomV_greedy(lo hi n:Int)(l s:List Ext)(hn:1≤n)(h0:0≤lo)(h1:lo≤hi)(hp:∀x,x∈s↔x∈l)(hs:s.Pairwise fun x y=>x.base≤y.base):
 VR lo hi n l=if n>hi-X3 n lo s then none else some (X3 n lo s):=by
 obtain⟨a1,a2,a3⟩:=greedy_spec n lo hn s s [] lo rfl hs (Int.le_refl _) (fun x hx=>by cases hx) (fun b h1 h2=>by omega)
 obtain⟨a,ha⟩:∃a,a=X3 n lo s:=⟨_,rfl⟩
 rw[←ha]at a1 a2 a3 ⊢
 unfold VR
 rw[if_neg (by omega),roomGo_spec n l a (fun x hx=>a2 x ((hp x).2 hx)) _ lo a1 fun b h1 h2=>by
  obtain⟨x,hx,hx2⟩:=a3 b h1 h2
  exact⟨x,(hp x).1 hx,hx2⟩]
 by_cases e:n>hi-a
 ·rw[if_pos e,if_neg (by omega)]
 ·rw[if_neg e,if_pos (by omega)]
end Go.Proofs.YteccmcpaheepcaaGreatDoor
namespace Go.Proofs.YteccmcpaheepcaaGreatDoor
open Go.RowKit Abs Stab
theorem may_small{L:List Ext}(h:∀x∈L,JA x=true):SmallE L:=fun x hx=>by
 obtain⟨a,b,c⟩:=UU (h x hx)
 have:=Ur a
 exact⟨by omega,by omega⟩
theorem vmax(a b:Int):vMin false [.int .i64 a,.int .i64 b]=some (.int .i64 (max a b)):=by
 simp only[vMin,evMin,aMin2]
 by_cases h:a<b
 ·simp[h,Int.max_def];omega
 ·simp[h,Int.max_def];omega
def roomU(o:Option Int):Value:=match o with|none=>.tuple #[.int .i64 0,.bool false]|some a=>.tuple #[.int .i64 a,.bool true]
theorem room_spec(lo hi n:Int)(K:Nat)(M:Mem)(V:Value)(L:List Ext)(h:Vi K M V L)(hl:L.length≤12)(hm:∀x∈L,JA x=true)(hn:1≤n)(hn2:n≤1000)(h0:0≤lo)(h1:lo≤hi)(h2:hi≤2000):
 Abs.Spec qc 58 [.int .i64 lo,.int .i64 hi,.int .i64 n,V] M fun u M'=>u=roomU (VR lo hi n L)∧More M M':=by
 refine UH Tryz.func58 Tryz.results58 Tryz.ntmps58 fun hc hx k=>?_
 have halE:Q9 qc 102=some (.cells false (J6 qc 102) noExt.cells):=al_Ext
 generalize J6 qc 102=s2 at halE
 have aggE:∀x:Ext,(Value.agg x.cells.toArray).cells.toList=x.cells:=fun _=>rfl
 have putE:∀(M0:Mem)(b:Nat)(x y:Ext),Jg 8 M0 b 0 y.cells (some (.cells false s2 x.cells))=some (M0.set b (some (.cells false s2 y.cells))):=fun _ _ _ _=>rfl
 have k2:∀x:Ext,cellIn 2 (some (.cells false s2 x.cells))=some (.int .i64 x.head.n):=fun _=>rfl
 have k7:∀x:Ext,cellIn 7 (some (.cells false s2 x.cells))=some (.int .i64 x.base):=fun _=>rfl
 have q1:decide (n<1)=false:=decide_eq_false (by omega)
 have q2:decide (lo<0)=false:=decide_eq_false (by omega)
 have q3:decide (hi<lo)=false:=decide_eq_false (by omega)
 refine J0 (R0 ?_)
 refine J0 (J0 (R3 @q1 @q2 @q3 ?_))
 refine CF (J4 ?_)
 simp only[zZ,reduceIte,yQ,yW,yX,yZ,yJ,yK,yV]
 refine J0 (R0 ?_)
 refine⟨by kernel_rfl,_,eclone_spec K M V L h (by omega),?_⟩
 rintro W M1 ⟨hW,ho1,hs1⟩
 refine S0 ?_
 have so:=sorte_own M.size M1 W L hW hl (may_small hm)
 unfold cmpE at so
 refine J0 (R0 ?_)
 refine⟨by kernel_rfl,_,so,?_⟩
 rintro _ M2 ⟨rfl,⟨R,hR,hW2⟩,hold2,hs2⟩
 have mo2:More M M2:=⟨fun b y hb=>hold2 b y (fun e=>by have:=(hW.live e).1;have:=Mem.get_lt hb;omega) (ho1 b y (by simp) hb),by omega⟩
 have hRm:∀x∈R,JA x=true:=fun x hx=>hm x ((hR.mem V9 x).1 hx)
 have hRl:R.length≤12:=by rw[hR.len];exact hl
 obtain⟨a0,c0,hV⟩:=hW2.len
 subst hV
 refine S0 ?_
 refine J0 (R0 ?_)
 refine Xv (fun f M'=>f=[(0,.int .i64 lo),(1,.int .i64 hi),(2,.int .i64 n),(11,.int .i64 (X3 n lo R))]∧0≤X3 n lo R∧X3 n lo R≤3000∧More M M') ?_ ?_
 ·refine J0 (R0 ?_)
  refine J8 (Jq (fun j f M'=>∃(i:Nat)(a:Int),j=R.length-i∧f=[(0,.int .i64 lo),(1,.int .i64 hi),(2,.int .i64 n),(11,.int .i64 a),(30,.slice a0 R.length c0),(31,.int .i64 (R.length:Nat)),(32,.int .i64 (i:Nat))]∧i≤R.length∧X3 n a (R.drop i)=X3 n lo R∧0≤a∧a≤3000∧More M2 M') R.length ?_ ?_)
  ·refine JK [0,1,2,11,30,31,32] ?_
   exact⟨M2,Thin.refl _,0,lo,rfl,rfl,by omega,rfl,h0,by omega,More.refl _⟩
  ·rintro j f M' ⟨i,a,rfl,rfl,hi',hgr,ha0,ha1,hmo⟩
   refine J0 (R0 ?_)
   refine J0 (CC (decide ((i:Int)<(R.length:Int))) (fun hq=>J4 ?_) (fun hq=>Jr ?_))
   ·have hin:=of_decide_eq_true hq
    obtain⟨x,hX⟩:∃x,R[i]?=some x:=⟨_,qr (by omega)⟩
    obtain⟨g,rfl,_,hg⟩:=hW2.at hX
    have hdrop:R.drop i=x::R.drop (i+1):=by
     have hil:i<R.length:=by omega
     rw[qr hil]at hX
     cases hX
     exact List.drop_eq_getElem_cons hil
    rw[hdrop,X3]at hgr
    obtain⟨hok,hb0,hb1⟩:=UU (hRm x (qu hX))
    have hn3:=Ur hok
    have z0:(0:Int)≤(i:Int):=by omega
    have r1:=ext_row hX 8
    have gg:=hmo.get _ _ hg
    have ws:IntKind.i64.wrap (x.base-a)=x.base-a:=Xx (by omega) (by omega)
    have wa:IntKind.i64.wrap (x.base+x.head.n)=x.base+x.head.n:=Xx (by omega) (by omega)
    have w9:IntKind.i64.wrap ((i:Int)+1)=((i+1:Nat):Int):=by rw[Xx (by omega) (by omega)];omega
    obtain⟨M5,hM5⟩:∃M5,M5=(M'.push (.cells false s2 noExt.cells)).set M'.size (some (.cells false s2 x.cells)):=⟨_,rfl⟩
    obtain⟨b13,hb13⟩:∃b,b=M'.size:=⟨_,rfl⟩
    have g13:M5.get b13=some (.cells false s2 x.cells):=by rw[hM5,hb13];exact Mem.get_set_same (Mem.get_push_new _ _) _
    have mo5:More M' M5:=⟨fun b x hb=>by
     have:=Mem.get_lt hb
     rw[hM5,Mem.get_set_ne (by omega),Mem.get_push_old this];exact hb,by rw[hM5,Mem.size_set,Mem.size_push];omega⟩
    simp only[zZ,reduceIte,yQ,yW,yX,yZ,yJ,yK,yV]
    refine J0 (J8 (J0 (J1 ?_)))
    simp only[zZ,reduceIte,yQ,yW,yX,yZ,yJ,yK,yV,zDk,Jc,Jd,Ja,J9,XX,z0,hin,and_self,qn,gg,r1,halE,Mem.get_push_new,aggE,putE]
    rw[←hM5,←hb13]
    refine J0 (J0 (R3 @g13 @k7 @ws ?_))
    refine CC (decide (n≤x.base-a)) (fun hq=>Jr ?_) (fun hq=>J4 ?_)
    ·rw[if_pos (of_decide_eq_true hq)]at hgr
     refine JK [0,1,2,11] ?_
     exact⟨_,Thin.refl _,by rw[hgr],by omega,by omega,(mo2.trans hmo).trans mo5⟩
    ·rw[if_neg (of_decide_eq_false hq)]at hgr
     simp only[zZ,reduceIte,yQ,yW,yX,yZ,yJ,yK,yV]
     refine R5 @g13 @k7 @k2 @wa @vmax ?_
     refine R1 @w9 ?_
     refine JK [0,1,2,11,30,31,32] ?_
     exact⟨_,Thin.refl _,R.length-(i+1),⟨i+1,max a (x.base+x.head.n),rfl,rfl,by omega,hgr,by omega,by omega,hmo.trans mo5⟩,by omega⟩
   ·have hin:=of_decide_eq_false hq
    rw[List.drop_of_length_le (by omega),X3]at hgr
    refine JK [0,1,2,11] ?_
    exact⟨_,Thin.refl _,by rw[hgr],by omega,by omega,mo2.trans hmo⟩
 rintro _ M3 ⟨rfl,ha0,ha1,mo3⟩
 have hrv:=roomV_greedy lo hi n L R hn h0 h1 (fun x=>hR.mem V9 x) hR.rising
 have ws:IntKind.i64.wrap (hi-X3 n lo R)=hi-X3 n lo R:=Xx (by omega) (by omega)
 refine J0 (J0 (R1 @ws ?_))
 refine CC (decide (n>hi-X3 n lo R)) (fun hq=>J0 (J1 ?_)) (fun hq=>J4 ?_)
 ·rw[if_pos (of_decide_eq_true hq)]at hrv
  refine S0 ?_
  refine T0 ?_
  exact⟨_,Thin.refl _,by rw[hrv];rfl,mo3⟩
 ·rw[if_neg (of_decide_eq_false hq)]at hrv
  simp only[zZ,reduceIte,yQ,yW,yX,yZ,yJ,yK,yV]
  refine J0 (R0 ?_)
  refine T0 ?_
  exact⟨_,Thin.refl _,by rw[hrv];rfl,mo3⟩
end Go.Proofs.YteccmcpaheepcaaGreatDoor
namespace Go.Proofs.YteccmcpaheepcaaGreatDoor
open Go.RowKit Abs
def chainH:List Bool→Option Bool
 | []=>some true
 |b::r=>match some b with
  |some true=>chainH r
  |some false=>some false
  |none=>none
theorem chainH_eq:∀l:List Bool,chainH l=some (l.all id)
 | []=>rfl
 |true::r=>by simp[chainH,chainH_eq r]
 |false::r=>by simp[chainH]
def sameH(x y:Header):Bool:=[x.id==y.id,beqB x.salt y.salt,x.n==y.n,x.bytes==y.bytes,x.raw==y.raw,beqB x.root y.root,beqB x.tag y.tag].all id
theorem sameH_iff(x y:Header):sameH x y=true↔x=y:=by
 obtain⟨a0,a1,a2,a3,a4,a5,a6⟩:=x
 obtain⟨b0,b1,b2,b3,b4,b5,b6⟩:=y
 unfold sameH
 simp only[List.all_cons,List.all_nil,id,Bool.and_true,Bool.and_eq_true,beq_iff_eq,decide_eq_true_eq,Header.mk.injEq,beqB_dec]
theorem sameH_self(x:Header):sameH x x=true:=(sameH_iff x x).2 rfl
theorem hdr_neq(cx:Bool)(x y:Header):aBin qc .neq 33 cx (.agg x.cells.toArray) (.agg y.cells.toArray)=some (.bool (!sameH x y)):=by
 obtain⟨a0,a1,a2,a3,a4,a5,a6⟩:=x
 obtain⟨b0,b1,b2,b3,b4,b5,b6⟩:=y
 have e0:aBin qc .neq 33 cx (.agg (Header.cells ⟨a0,a1,a2,a3,a4,a5,a6⟩).toArray) (.agg (Header.cells ⟨b0,b1,b2,b3,b4,b5,b6⟩).toArray)=(chainH [a0==b0,beqB a1 b1,a2==b2,a3==b3,a4==b4,beqB a5 b5,beqB a6 b6]).map fun b=>.bool (!b):=by cases cx<;>kernel_rfl
 rw[e0,chainH_eq,Option.map_some]
 rfl
theorem roomGo_in(n:Int)(l:List Ext):∀(k:Nat)(at' b:Int),UM n l k at'=some b→at'≤b∧b<at'+k
 |0,_,_,h=>by cases h
 |k+1,at',b,h=>by
  unfold UM at h
  split at h
  ·cases h;omega
  ·have:=roomGo_in n l k (at'+1) b h;omega
theorem roomV_in{lo hi n b:Int}{l:List Ext}(h:VR lo hi n l=some b):lo≤b∧b+n≤hi:=by
 unfold VR at h
 split at h
 ·cases h
 ·have:=roomGo_in n l _ _ b h;omega
theorem begin_rest{d:Dsk}{D:Dep}{h:Header}{i:Nat}{base:Int}{W Y:Dsk×Int}(hW:W=d.write ((1+i:Nat):Int) (Qv ⟨⟨h,base⟩,qd h.n.toNat false⟩))(hY:Y=W.1.sync):
 Dep.begun d D h i base=(if W.2≠0 then(W.1,D,W.2)else if Y.2≠0 then(Y.1,D,Y.2)else(Y.1,{ D with opn:=D.opn.set i (some ⟨⟨h,base⟩,qd h.n.toNat false⟩) },0)):=by subst hW hY;rfl
theorem free_in{α:Type}:∀(l:List (Option α))(k i:Nat),QR l k=some i→k≤i∧i<k+l.length
 | [],k,i,h=>by cases h
 |none::r,k,i,h=>by unfold QR at h;cases h;simp
 |some a::r,k,i,h=>by
  unfold QR at h
  have:=free_in r (k+1) i h
  simp only[List.length_cons]
  omega
theorem places_len{D:Dep}{n:Nat}(h:D.Ok n):D.places.length≤12:=by
 unfold Dep.places QF
 have h2:=List.length_filterMap_le id D.kept
 have h3:=List.length_filterMap_le id D.opn
 rw[h.kept]at h2
 rw[h.opn]at h3
 rw[qe,List.length_map];omega
theorem Uk{h:Header}{key:List UInt8}(hv:h.verify key=0):h.okP:=(h.check_zero).1 (by
 unfold Header.verify at hv
 split at hv
 ·exact absurd hv (by decide)
 ·rename_i h1
  exact(ZZ _).resolve_right h1)
theorem room_new(n:Int)(h1:1≤n):VR 13 40 n []=none∨VR 13 40 n []=some 13:=by
 unfold VR
 rw[if_neg (by omega)]
 by_cases h:n≤27
 ·obtain⟨k,hk⟩:∃k,((40:Int)-13-n+1).toNat=k+1:=⟨((40:Int)-13-n).toNat,by omega⟩
  rw[hk]
  unfold UM
  rw[if_pos (by rfl)]
  exact .inr rfl
 ·have:((40:Int)-13-n+1).toNat=0:=by omega
  rw[this]
  exact .inl rfl
section
variable {key : List UInt8} {h : Header} {d : Dsk} {G : List Bool}
theorem forged_no{D:Dep}(hd:d.dead=false)(hk:D.key=key)(hv:h.verify key≠0):Dep.begin d D h=(d,D,h.verify key):=by
 unfold Dep.begin
 rw[if_neg (by rw[hd];decide),hk,if_pos hv]
theorem forged_yes(hv:h.verify key=0):Dep.begin (Jj 40) (U3 key 1 0) h=(Jj 40,U3 key 1 0,13)∨
 ∃d' G,Dep.begin (Jj 40) (U3 key 1 0) h=(d',Z2 key ⟨h,[]⟩ 1 0 G,0)∧d'.dead=false∧d'.old.length=40:=by
 have hok:=Uk hv
 have h1:=Ur hok
 have hb:Dep.begin (Jj 40) (U3 key 1 0) h=match VR 13 40 h.n []with|none=>(Jj 40,U3 key 1 0,13)|some base=>Dep.begun (Jj 40) (U3 key 1 0) h 0 base:=by
  unfold Dep.begin
  rw[if_neg (show¬(Jj 40).dead=true by decide),if_neg (by show¬h.verify key≠0;simp[hv]),d0_head,if_neg (by simp),d0_places]
  rfl
 rw[hb]
 rcases room_new h.n h1.1 with e|e
 ·rw[e];exact .inl rfl
 ·rw[e]
  right
  have hm:JA ⟨h,13⟩=true:=by
   unfold JA
   simp only[Bool.and_eq_true,decide_eq_true_eq]
   refine⟨⟨?_,by decide⟩,by omega⟩
   unfold Header.may
   exact decide_eq_true ((Header.check_zero _).2 hok)
  obtain⟨W,hW⟩:∃W,W=(Jj 40).write ((1+0:Nat):Int) (Qv ⟨⟨h,13⟩,qd h.n.toNat false⟩):=⟨_,rfl⟩
  obtain⟨Y,hY⟩:∃Y,Y=W.1.sync:=⟨_,rfl⟩
  have hx:(Qv ⟨⟨h,13⟩,qd h.n.toNat false⟩).length≤256:=by rw[jouText_len hm];decide
  have lv:(Jj 40).live:=⟨rfl,rfl⟩
  have hw:=Dsk.write_live (d:=Jj 40) (i:=1+0) (by simp[Jj]) hx lv
  have hwl:0<W.1.old.length:=by rw[hW,Dsk.write_old (by simp[Jj]) hx];simp[Jj]
  rw[←hW]at hw
  have hy:=Dsk.sync_live hwl hw.2
  rw[←hY]at hy
  show∃d' G,Dep.begun (Jj 40) (U3 key 1 0) h 0 13=_∧_
  rw[begin_rest hW hY,if_neg (by rw[hw.1];simp),if_neg (by rw[hy.1];simp)]
  exact⟨Y.1,qd h.n.toNat false,rfl,hy.2.1,by rw[hY,Dsk.sync_len hwl,hW,Dsk.write_old (by simp[Jj]) hx];simp[Jj]⟩
theorem forged_again(hd:d.dead=false)(hv:h.verify key=0):Dep.begin d (Z2 key ⟨h,[]⟩ 1 0 G) h=(d,Z2 key ⟨h,[]⟩ 1 0 G,0):=by
 have hh:(Z2 key ⟨h,[]⟩ 1 0 G).headAt h.id=(h,false,0):=d1_head (a:=⟨h,[]⟩)
 unfold Dep.begin
 rw[if_neg (by rw[hd];decide),if_neg (by show¬h.verify key≠0;simp[hv]),hh,if_pos rfl,if_pos rfl]
theorem forged_other(hd:d.dead=false){g:Header}(hid:g.id=h.id)(hg:h≠g):∃e,e≠0∧Dep.begin d (Z2 key ⟨h,[]⟩ 1 0 G) g=(d,Z2 key ⟨h,[]⟩ 1 0 G,e):=by
 by_cases hv:g.verify key=0
 ·have hh:(Z2 key ⟨h,[]⟩ 1 0 G).headAt g.id=(h,false,0):=by rw[hid];exact d1_head (a:=⟨h,[]⟩)
  refine⟨6,by decide,?_⟩
  unfold Dep.begin
  rw[if_neg (by rw[hd];decide),if_neg (by show¬g.verify key≠0;simp[hv]),hh,if_pos rfl,if_neg hg]
 ·exact⟨_,hv,forged_no hd rfl hv⟩
end
theorem under_d0h(key:List UInt8):(U3 key 1 0).underL=[]:=rfl
theorem xor_one(n:Int):bits .xor .i64 n 1≠n:=by
 intro h
 have e:BitVec.ofInt 64 (bits .xor .i64 n 1)=BitVec.ofInt 64 n^^^1#64:=by
  show BitVec.ofInt 64 (IntKind.i64.wrap ((BitVec.ofInt 64 n^^^BitVec.ofInt 64 1).toNat:Nat))=_
  rw[IntKind.wrap_i64]
  apply BitVec.eq_of_toNat_eq
  have h2:=(BitVec.ofInt 64 n^^^BitVec.ofInt 64 1).isLt
  have e1:BitVec.ofInt 64 1=1#64:=by decide
  rw[e1]at h2 ⊢
  generalize BitVec.ofInt 64 n^^^1#64=X at h2 ⊢
  rw[BitVec.toNat_ofInt]
  omega
 rw[h]at e
 have:BitVec.ofInt 64 n^^^BitVec.ofInt 64 n=BitVec.ofInt 64 n^^^(BitVec.ofInt 64 n^^^1#64):=by rw[←e]
 rw[←BitVec.xor_assoc,BitVec.xor_self]at this
 simp at this
section
variable {key : List UInt8} {a : Arc}
theorem hist_new(N:Nat)(hN:20≤N)(hN2:N≤1024)(a:Arc)(P:List Bool→Prop):Hist a (Jj N) 1 P∧Clean (Jj N)∧(Jj N).live∧Qg ((Jj N).sector 1)=[]∧Qg ((Jj N).sector 5)=[]:=by
 have hp:∀i s,(Jj N).poss i s→(i=0∧s=Jo (JZ 1))∨(1≤i∧i<N∧s=zeroS):=fun i s h=>by
  rcases h with h|h
  ·cases i with
   |zero=>left;exact⟨rfl,(Option.some.inj h).symm⟩
   |succ i=>
    have h:(qd (N-1) zeroS)[i]?=some s:=h
    rw[qk]at h
    split at h
    ·right;exact⟨by omega,by omega,(Option.some.inj h).symm⟩
    ·cases h
  ·simp[Jj,JO]at h
 have hsec:∀i,1≤i→i<N→(Jj N).sector i=zeroS:=fun i h1 h2=>by
  obtain⟨k,rfl⟩:∃k,i=k+1:=⟨i-1,by omega⟩
  unfold Dsk.sector Jj
  simp only[JO,List.find?_nil,Option.map_none,Option.getD_none,List.getElem?_cons_succ,qk]
  rw[if_pos (by omega)]
  rfl
 have hok:(Jj N).Ok:=by
  have hf:(Jo (JZ 1)).length=256:=by decide+kernel
  refine⟨by simp[Jj];omega,by simp[Jj],fun s hs=>?_,by simp[Jj],by simp[Jj],by simp[Jj],by simp[Jj],⟨by show(-1:Int)≤ -1;decide,by show(-1:Int)≤_;decide⟩,trivial⟩
  unfold Jj at hs
  simp only[qi,List.mem_replicate]at hs
  rcases hs with rfl|⟨_,rfl⟩
  ·exact hf
  ·exact qf
 refine⟨⟨hok,by simp[Jj];omega,fun s h=>?_,fun i hi s h=>?_,fun s h=>.inl ?_,fun s h=>.inl ?_⟩,fun i s h=>?_,⟨rfl,rfl⟩,?_,?_⟩
 ·rcases hp 0 s h with⟨_,rfl⟩|⟨q,_⟩
  ·exact⟨1,by decide,by decide,rfl⟩
  ·omega
 ·rcases hp i s h with⟨q,_⟩|⟨_,_,rfl⟩
  ·omega
  ·exact XT
 ·rcases hp 1 s h with⟨q,_⟩|⟨_,_,rfl⟩
  ·omega
  ·exact XT
 ·rcases hp 5 s h with⟨q,_⟩|⟨_,_,rfl⟩
  ·omega
  ·exact XT
 ·rcases hp i s h with⟨rfl,rfl⟩|⟨q1,q2,rfl⟩
  ·rfl
  ·rw[hsec i q1 q2]
 ·rw[hsec 1 (by decide) (by omega)];exact XT
 ·rw[hsec 5 (by decide) (by omega)];exact XT
end
end Go.Proofs.YteccmcpaheepcaaGreatDoor
namespace Go.Proofs.YteccmcpaheepcaaGreatDoor
open Go.RowKit Abs Stab
def hid(h:Header):Int:=h.id
def SmallH(L:List Header):Prop:=∀h∈L, -1099511627776≤h.id∧h.id≤1099511627776
theorem hdl_len(h:Header):h.cells.length=7:=rfl
theorem hdl_one(h:Header):Jk h.cells=true:=rfl
def ZG(M:Mem)(g:Nat)(L:List Header):Prop:=M.get g=some (.cells false 7 (L.flatMap Header.cells))
theorem hdl_row{M:Mem}{g:Nat}{L:List Header}(h:ZG M g L){k:Nat}{x:Header}(hx:L[k]?=some x):Jp 7 (k*7) (M.get g)=some (.agg x.cells.toArray):=by
 rw[show M.get g=_ from h]
 exact rowIn_at (n:=7) (fun a _=>hdl_len a) hx false 7
theorem hdl_put{M:Mem}{g:Nat}{L:List Header}(h:ZG M g L){k:Nat}{x:Header}(hx:L[k]?=some x)(y:Header):∃M',Jg 7 M g (k*7) y.cells (M.get g)=some M'∧ZG M' g (L.set k y)∧Only [g] M M'∧M'.size=M.size:=by
 refine⟨_,?_,Mem.get_set_same h _,Only.set (by simp) _,Mem.size_set _ _ _⟩
 rw[show M.get g=_ from h]
 exact putIn_at (fun a _=>hdl_len a) hx y (hdl_len y) (hdl_one y) M g 7
def cmpH(cf:FuncId):Value:=.func (.func cf) #[] #[]
def CmpOk(cf:FuncId):Prop:=Qb qc cf=true∧∀a b:Header,(-1099511627776≤a.id∧a.id≤1099511627776)→(-1099511627776≤b.id∧b.id≤1099511627776)→∀m,
    Abs.Spec qc cf [.agg a.cells.toArray,.agg b.cells.toArray] m fun u M=>u=.int .i64 (a.id-b.id)∧M=m
theorem swap_adjH(P Q:List Header)(x y:Header):((P++y::x::Q).set (P.length+1) y).set P.length x=P++x::y::Q:=by
 rw[List.set_append_right _ _ (by omega),show P.length+1-P.length=1 by omega,List.set_cons_succ,List.set_cons_zero,set_mid]
theorem at_midH(P Q:List Header)(x:Header):(P++x::Q)[P.length]?=some x:=by simp
theorem at_midH1(P Q:List Header)(x y:Header):(P++y::x::Q)[P.length+1]?=some x:=by
 rw[List.getElem?_append_right (by omega)]
 simp
theorem insh_spec(cf:FuncId)(hcf:CmpOk cf)(g n c:Nat)(M:Mem)(A X B:List Header)(hg:ZG M g (A++X++B))(hn:(A++X++B).length=n)(hn2:n≤1000000)(hs:SmallH (A++X++B)):
 Abs.Spec qc 217 [.slice (some ⟨g,0,none⟩) n c,.int .i64 (A.length:Nat),.int .i64 ((A.length+X.length:Nat):Int),cmpH cf] M
  fun u M'=>u=.tuple #[]∧(∃R,Stable hid X R∧ZG M' g (A++R++B))∧Only [g] M M'∧M'.size=M.size:=by
 unfold cmpH
 refine UH Tryz.func217 Tryz.results217 Tryz.ntmps217 fun hc hx k=>?_
 have hlen:A.length+X.length+B.length=n:=by rw[←hn];simp only[qe]
 have w0:IntKind.i64.wrap (((A.length:Nat):Int)+1)=((A.length+1:Nat):Int):=by rw[Xx (by omega) (by omega)];omega
 refine J0 (R1 @w0 ?_)
 refine J8 (Jq (fun j f M'=>∃(i:Nat)(R Q:List Header),j=n+1-i∧f=[(0,.slice (some ⟨g,0,none⟩) n c),(1,.int .i64 (A.length:Nat)),(2,.int .i64 ((A.length+X.length:Nat):Int)),(3,.func (.func cf) #[] #[]),(8,.int .i64 (i:Nat))]∧
  i≤n+1∧((i=A.length+R.length∧R≠ [])∨(X=[]∧i=A.length+1))∧(∃X1,X=X1++Q∧Stable hid X1 R)∧ZG M' g (A++R++Q++B)∧Only [g] M M'∧M'.size=M.size) (n+1-(A.length+1)) ?_ ?_)
 ·refine JK [0,1,2,3,8] ?_
  cases hX:X with
  |nil=>exact⟨M,Thin.refl _,A.length+1,[],[],rfl,by simp,by omega,.inr ⟨rfl,rfl⟩,⟨[],rfl,Stable.refl _ qt.nil⟩,by rw[hX]at hg;simpa using hg,Only.refl _ _,rfl⟩
  |cons x Q=>exact⟨M,Thin.refl _,A.length+1,[x],Q,rfl,by simp,by rw[hX]at hlen;simp only[List.length_cons]at hlen;omega,.inl ⟨rfl,by simp⟩,⟨[x],rfl,Stable.refl _ (List.pairwise_singleton _ _)⟩,by rw[hX]at hg;simpa using hg,Only.refl _ _,rfl⟩
 ·rintro j f M' ⟨i,R,Q,rfl,rfl,hi,hiR,⟨X1,hX1,hst⟩,hg',ho,hsz⟩
  refine J0 (J0 (R0 ?_))
  refine CC (decide ((i:Int)<((A.length+X.length:Nat):Int))) (fun h=>J4 ?_) (fun h=>Jr ?_)
  ·have h:=of_decide_eq_true h
   obtain⟨hiA,hRne⟩:i=A.length+R.length∧R≠ []:=by
    rcases hiR with h1|⟨h1,h2⟩
    ·exact h1
    ·rw[h1,qw]at h;omega
   have hl1:=hst.len
   obtain⟨x,Q',rfl⟩:∃x Q',Q=x::Q':=by
    cases Q with
    |nil=>rw[hX1,qh]at h;omega
    |cons x Q'=>exact⟨x,Q',rfl⟩
   have hXl:X.length=X1.length+(Q'.length+1):=by rw[hX1];simp
   have hsm:∀y,y∈R∨y=x→ -1099511627776≤y.id∧y.id≤1099511627776:=fun y hy=>hs y (by
    rw[hX1]
    rcases hy with hy|rfl
    ·rw[hst.mem]at hy;simp[hy]
    ·simp)
   simp only[zZ,reduceIte,yQ,yW,yX,yZ,yJ,yK,yV]
   refine Xv (fun f M2=>∃R2,f=[(0,.slice (some ⟨g,0,none⟩) n c),(1,.int .i64 (A.length:Nat)),(2,.int .i64 ((A.length+X.length:Nat):Int)),(3,.func (.func cf) #[] #[]),(8,.int .i64 (i:Nat))]∧Stable hid (X1++[x]) R2∧ZG M2 g (A++R2++Q'++B)∧Only [g] M M2∧M2.size=M.size) ?_ ?_
   ·refine J8 (J0 (R0 ?_))
    refine J8 (Jq (fun jj f M2=>∃(j:Nat)(R1 R2:List Header),jj=j∧f=[(0,.slice (some ⟨g,0,none⟩) n c),(1,.int .i64 (A.length:Nat)),(2,.int .i64 ((A.length+X.length:Nat):Int)),(3,.func (.func cf) #[] #[]),(8,.int .i64 (i:Nat)),(9,.int .i64 (j:Nat))]∧
     R=R1++R2∧j=A.length+R1.length∧(∀y∈R2,x.id<y.id)∧ZG M2 g (A++R1++x::R2++Q'++B)∧Only [g] M M2∧M2.size=M.size) i ?_ ?_)
    ·refine JK [0,1,2,3,8,9] ?_
     exact⟨M',Thin.refl _,i,R,[],rfl,rfl,by simp,hiA,by simp,by simpa using hg',ho,hsz⟩
    ·rintro j f M2 ⟨_,R1,R2,rfl,rfl,hRR,hj,hgt,hg2,ho2,hsz2⟩
     have done:(∀y∈R1,y.id≤x.id)→∀(f:AL),AL.get f 0=some (.slice (some ⟨g,0,none⟩) n c)→AL.get f 1=some (.int .i64 (A.length:Nat))→AL.get f 2=some (.int .i64 ((A.length+X.length:Nat):Int))→AL.get f 3=some (.func (.func cf) #[] #[])→AL.get f 8=some (.int .i64 (i:Nat))→
      @JoinM f M2 ⟨fun f M2=>∃R2,f=[(0,.slice (some ⟨g,0,none⟩) n c),(1,.int .i64 (A.length:Nat)),(2,.int .i64 ((A.length+X.length:Nat):Int)),(3,.func (.func cf) #[] #[]),(8,.int .i64 (i:Nat))]∧Stable hid (X1++[x]) R2∧ZG M2 g (A++R2++Q'++B)∧Only [g] M M2∧M2.size=M.size⟩:=fun hle f h0 h1 h2 h3 h8=>by
      refine⟨[0,1,2,3,8],?_⟩
      simp only[keepF,h0,h1,h2,h3,h8,zZ,reduceIte,yQ,yW,yX,yZ,yJ,yK,yV]
      have hst2:Stable hid (R++[x]) (R1++x::R2):=by
       rw[hRR]
       exact UX hid (by rw[←hRR];exact hst.rising) (fun y hy=>hle y hy) (fun y hy=>hgt y hy)
      have hst3:Stable hid (X1++[x]) (R1++x::R2):=hst2.of_keys hid (fun k=>by rw[Xe,Xe,hst.keys]) (by simp[hst.len])
      exact⟨M2,Thin.refl _,R1++x::R2,hst3,by simpa using hg2,ho2,hsz2⟩
     refine J0 (J0 (QY hmix 14 (by kernel_rfl) (by kernel_rfl) ?_))
     rcases List.eq_nil_or_concat R1 with rfl|⟨R1',y,rfl⟩
     ·have q1:decide ((A.length:Int)<(j:Int))=false:=decide_eq_false (by rw[hj];simp)
      refine S1 @q1 ?_
      refine CF (Jr ?_)
      simp only[zZ,reduceIte,yQ,yW,yX,yZ,yJ,yK,yV]
      exact done (by simp) _ rfl rfl rfl rfl rfl
     ·obtain⟨P,hP⟩:∃P,P=A++R1':=⟨_,rfl⟩
      obtain⟨T,hT⟩:∃T,T=R2++Q'++B:=⟨_,rfl⟩
      have hL:A++R1'.concat y++x::R2++Q'++B=P++y::x::T:=by rw[hP,hT];simp
      rw[hL]at hg2
      have hjP:j=P.length+1:=by rw[hj,hP];simp;omega
      have hn3:P.length+1<n:=by
       have e:=congrArg List.length hRR
       simp only[qe,List.length_concat]at e
       rw[hP,qe]
       omega
      have q1:decide ((A.length:Int)<(j:Int))=true:=decide_eq_true (by rw[hjP,hP,qe];omega)
      have r1:=hdl_row hg2 (at_midH1 P T x y)
      have r0:=hdl_row hg2 (at_midH P (x::T) y)
      have w1:IntKind.i64.wrap ((j:Int)-1)=((P.length:Nat):Int):=by rw[Xx (by omega) (by omega)];omega
      have z1:(0:Int)≤(j:Int):=by omega
      have z2:(j:Int)<(n:Int):=by omega
      have z3:(0:Int)≤((P.length:Nat):Int):=by omega
      have z4:((P.length:Nat):Int)<(n:Int):=by omega
      rw[←hjP]at r1
      refine S9 @q1 @w1 @z1 @z2 @z3 @z4 @and_self @r0 @r1 ?_
      have sx:=hsm x (.inr rfl)
      have sy:=hsm y (.inl (by rw[hRR];simp))
      refine⟨hcf.1,_,hcf.2 x y sx sy M2,?_⟩
      rintro _ M9 ⟨rfl,e9⟩;replace e9:=e9.symm;subst e9
      refine⟨by decide,?_⟩
      refine S0 ?_
      refine CC (decide (x.id-y.id<0)) (fun h=>J4 ?_) (fun h=>Jr ?_)
      ·have h:=of_decide_eq_true h
       obtain⟨M3,hp3,hg3,ho3,hs3⟩:=hdl_put hg2 (show(P++y::x::T)[j]?=some x by rw[hjP];exact at_midH1 P T x y) y
       have hx3:((P++y::x::T).set j y)[P.length]?=some y:=by
        rw[qo (by omega)];exact at_midH P (x::T) y
       obtain⟨M4,hp4,hg4,ho4,hs4⟩:=hdl_put hg3 hx3 x
       rw[hjP,swap_adjH]at hg4
       simp only[zZ,reduceIte,yQ,yW,yX,yZ,yJ,yK,yV]
       refine J0 (J8 (CW_draw4 hmix 15 [2,3,4] (by kernel_rfl) ?_))
       simp only[sQB,Zd,Option.bind_some,zZ,reduceIte,yQ,yW,yX,yZ,yJ,yK,yV,zDk,Jc,Jd,Ja,J9,XX,w1,z1,z2,z3,z4,and_self,r0,r1,hp3,hp4]
       refine⟨⟨⟨_,rfl⟩,⟨_,rfl⟩,⟨_,rfl⟩⟩,?_⟩
       refine R1 @w1 ?_
       refine JK [0,1,2,3,8,9] ?_
       refine⟨M4,Thin.refl _,P.length,⟨P.length,R1',y::R2,rfl,rfl,by rw[hRR];simp,by rw[hP,qe],?_,?_,ho2.trans (ho3.trans ho4),by omega⟩,by omega⟩
       ·intro z hz
        rcases qi.1 hz with rfl|hz
        ·omega
        ·exact hgt z hz
       ·have e:A++R1'++x::(y::R2)++Q'++B=P++x::y::T:=by rw[hP,hT];simp
        rw[e];exact hg4
      ·have h:=of_decide_eq_false h
       simp only[zZ,reduceIte,yQ,yW,yX,yZ,yJ,yK,yV]
       refine done (fun z hz=>?_) _ rfl rfl rfl rfl rfl
       have hr:=hst.rising
       rw[hRR]at hr
       have hr:=(Rising.parts hid hr).1
       rw[List.concat_eq_append]at hr hz
       rcases qx.1 hz with hz|hz
       ·have:=(Rising.parts hid hr).2.2 z hz y (by simp)
        unfold hid at this
        omega
       ·simp only[qz]at hz
        rw[hz];omega
   ·rintro _ M2 ⟨R2,rfl,hst2,hg2,ho2,hsz2⟩
    have hl2:=hst2.len
    have w1:IntKind.i64.wrap ((i:Int)+1)=((i+1:Nat):Int):=by rw[Xx (by omega) (by omega)];omega
    refine R1 @w1 ?_
    refine JK [0,1,2,3,8] ?_
    refine⟨M2,Thin.refl _,n+1-(i+1),⟨i+1,R2,Q',rfl,rfl,by omega,.inl ⟨?_,?_⟩,⟨X1++[x],by rw[hX1];simp,hst2⟩,hg2,ho2,hsz2⟩,by omega⟩
    ·rw[hl2,hiA];simp;omega
    ·intro e;rw[e]at hl2;simp at hl2
  ·have h:=of_decide_eq_false h
   have hl1:=hst.len
   have hQ:Q=[]:=by
    rcases hiR with⟨h1,h2⟩|⟨h1,h2⟩
    ·have:Q.length=0:=by rw[hX1,qe]at h;omega
     exact qj this
    ·rw[h1]at hX1;exact(List.append_eq_nil_iff.1 hX1.symm).2
   simp only[zZ,reduceIte,yQ,yW,yX,yZ,yJ,yK,yV,zDk,Jc,Jd,Ja,J9,XX,mEnd,sAnswer,sAnswer.sRes]
   rw[hQ,qh]at hg' hX1
   exact⟨M',Thin.refl _,⟨R,by rw[hX1];exact hst,hg'⟩,ho,hsz⟩
theorem pdqh_spec(cf:FuncId)(hcf:CmpOk cf)(g n c:Nat)(lim:Int)(M:Mem)(L:List Header)(hg:ZG M g L)(hn:L.length=n)(hn2:n≤12)(hs:SmallH L):
 Abs.Spec qc 145 [.slice (some ⟨g,0,none⟩) n c,.int .i64 0,.int .i64 (n:Nat),.int .i64 lim,cmpH cf] M
  fun u M'=>u=.tuple #[]∧(∃R,Stable hid L R∧ZG M' g R)∧Only [g] M M'∧M'.size=M.size:=by
 unfold cmpH
 refine UH Tryz.func145 Tryz.results145 Tryz.ntmps145 fun hc hx k=>?_
 have w0:IntKind.i64.wrap ((n:Int)-0)=(n:Int):=by rw[Xx (by omega) (by omega)];omega
 have q1:decide ((n:Int)≤12)=true:=decide_eq_true (by omega)
 have is:=insh_spec cf hcf g n c M [] L [] (by simpa using hg) (by simpa using hn) (by omega) (by simpa using hs)
 simp only[qw,Nat.zero_add,hn,qy,qh]at is
 unfold cmpH at is
 refine J0 (R0 ?_)
 refine J0 (R0 ?_)
 refine J8 (Jq (fun j f M'=>j=0∧f=[(0,.slice (some ⟨g,0,none⟩) n c),(1,.int .i64 0),(2,.int .i64 (n:Nat)),(4,.func (.func cf) #[] #[])]∧M'=M) 0 ?_ ?_)
 ·refine JK [0,1,2,4] ?_
  exact⟨M,Thin.refl _,rfl⟩
 ·rintro j f M' ⟨rfl,rfl,e9⟩
  replace e9:=e9.symm;subst e9
  refine J8 (J0 (R1 @w0 ?_))
  refine J0 (J0 (R1 @q1 ?_))
  refine CT (J0 (R0 ?_))
  refine⟨by kernel_rfl,_,is,?_⟩
  rintro _ M2 ⟨rfl,hR,ho,hsz⟩
  refine S0 ?_
  refine T0 ?_
  exact⟨_,Thin.refl _,hR,ho,hsz⟩
theorem sorth_spec(cf:FuncId)(hcf:CmpOk cf)(g n c:Nat)(M:Mem)(L:List Header)(hg:ZG M g L)(hn:L.length=n)(hn2:n≤12)(hs:SmallH L):
 Abs.Spec qc 66 [.slice (some ⟨g,0,none⟩) n c,cmpH cf] M
  fun u M'=>u=.tuple #[]∧(∃R,Stable hid L R∧ZG M' g R)∧Only [g] M M'∧M'.size=M.size:=by
 unfold cmpH
 refine UH Tryz.func66 Tryz.results66 Tryz.ntmps66 fun hc hx k=>?_
 have bl:=fun m=>blen_spec (n:Int) (by omega) (by omega) m
 have w0:IntKind.u64.wrap (n:Int)=(n:Int):=by unfold IntKind.wrap;simp[IntKind.bits,IntKind.signed];omega
 have pq:=fun lim=>pdqh_spec cf hcf g n c lim M L hg hn hn2 hs
 unfold cmpH at pq
 refine J0 (R0 ?_)
 refine R1 @w0 ?_
 refine K0 (bl _) ?_
 refine⟨by kernel_rfl,_,pq _,?_⟩
 rintro _ M2 ⟨rfl,hR,ho,hsz⟩
 simp only[zZ,reduceIte,yQ,yW,yX,yZ,yJ,yK,yV,zDk,Jc,Jd,Ja,J9,XX,mEnd,sAnswer,sAnswer.sRes]
 exact⟨_,Thin.refl _,hR,ho,hsz⟩
abbrev Xw(K:Nat)(M:Mem)(V:Value)(L:List Header):Prop:=OwnL Header.cells 7 K M V L
theorem insh_nil(cf:FuncId)(hcf:CmpOk cf)(M:Mem):
 Abs.Spec qc 217 [.slice none 0 0,.int .i64 0,.int .i64 0,cmpH cf] M fun u M'=>u=.tuple #[]∧M'=M:=by
 unfold cmpH
 refine UH Tryz.func217 Tryz.results217 Tryz.ntmps217 fun hc hx k=>?_
 have w0:IntKind.i64.wrap ((0:Int)+1)=1:=by decide
 have q1:decide ((1:Int)<0)=false:=rfl
 refine J0 (R1 @w0 ?_)
 refine J8 (Jq (fun j f M'=>j=0∧f=[(0,.slice none 0 0),(1,.int .i64 0),(2,.int .i64 0),(3,.func (.func cf) #[] #[]),(8,.int .i64 1)]∧M'=M) 0 ?_ ?_)
 ·refine JK [0,1,2,3,8] ?_
  exact⟨M,Thin.refl _,rfl⟩
 ·rintro j f M' ⟨rfl,rfl,e9⟩
  replace e9:=e9.symm;subst e9
  refine J0 (J0 (R2 @q1 @decide_false ?_))
  refine CF (Jr ?_)
  simp only[zZ,reduceIte,yQ,yW,yX,yZ,yJ,yK,yV,zDk,Jc,Jd,Ja,J9,XX,mEnd,sAnswer,sAnswer.sRes]
  exact⟨_,Thin.refl _,rfl⟩
theorem pdqh_nil(cf:FuncId)(hcf:CmpOk cf)(lim:Int)(M:Mem):
 Abs.Spec qc 145 [.slice none 0 0,.int .i64 0,.int .i64 0,.int .i64 lim,cmpH cf] M fun u M'=>u=.tuple #[]∧M'=M:=by
 have is:=insh_nil cf hcf M
 unfold cmpH at is ⊢
 refine UH Tryz.func145 Tryz.results145 Tryz.ntmps145 fun hc hx k=>?_
 have w0:IntKind.i64.wrap ((0:Int)-0)=0:=by decide
 have q1:decide ((0:Int)≤12)=true:=rfl
 refine J0 (R0 ?_)
 refine J0 (R0 ?_)
 refine J8 (Jq (fun j f M'=>j=0∧f=[(0,.slice none 0 0),(1,.int .i64 0),(2,.int .i64 0),(4,.func (.func cf) #[] #[])]∧M'=M) 0 ?_ ?_)
 ·refine JK [0,1,2,4] ?_
  exact⟨M,Thin.refl _,rfl⟩
 ·rintro j f M' ⟨rfl,rfl,e9⟩
  replace e9:=e9.symm;subst e9
  refine J8 (J0 (R1 @w0 ?_))
  refine J0 (J0 (R2 @q1 @decide_true ?_))
  refine CT (J0 (R0 ?_))
  refine⟨by kernel_rfl,_,is,?_⟩
  rintro _ M2 ⟨rfl,rfl⟩
  refine S0 ?_
  refine T0 ?_
  exact⟨_,Thin.refl _,rfl⟩
theorem sorth_nil(cf:FuncId)(hcf:CmpOk cf)(M:Mem):
 Abs.Spec qc 66 [.slice none 0 0,cmpH cf] M fun u M'=>u=.tuple #[]∧M'=M:=by
 have pq:=fun lim=>pdqh_nil cf hcf lim M
 unfold cmpH at pq ⊢
 refine UH Tryz.func66 Tryz.results66 Tryz.ntmps66 fun hc hx k=>?_
 have bl:=fun m=>blen_spec 0 (by omega) (by omega) m
 have w0:IntKind.u64.wrap 0=0:=by decide
 refine J0 (R0 ?_)
 refine R1 @w0 ?_
 refine K0 (bl _) ?_
 refine⟨by kernel_rfl,_,pq _,?_⟩
 rintro _ M2 ⟨rfl,rfl⟩
 simp only[zZ,reduceIte,yQ,yW,yX,yZ,yJ,yK,yV,zDk,Jc,Jd,Ja,J9,XX,mEnd,sAnswer,sAnswer.sRes]
 exact⟨_,Thin.refl _,rfl⟩
theorem sorth_own(cf:FuncId)(hcf:CmpOk cf)(K:Nat)(M:Mem)(V:Value)(L:List Header)(h:Xw K M V L)(hl:L.length≤12)(hs:SmallH L):
 Abs.Spec qc 66 [V,cmpH cf] M
  fun u M'=>u=.tuple #[]∧(∃R,Stable hid L R∧Xw K M' V R)∧(∀b y,Qz V≠some b→M.get b=some y→M'.get b=some y)∧M'.size=M.size:=by
 rcases h with⟨rfl,rfl⟩|⟨h0,g,hk,rfl,hg⟩
 ·refine(sorth_nil cf hcf M).mono ?_
  rintro u M' ⟨rfl,rfl⟩
  exact⟨rfl,⟨[],Stable.refl _ qt.nil,OwnL.nil _ _⟩,fun _ _ _ h=>h,rfl⟩
 ·refine(sorth_spec cf hcf g L.length L.length M L hg rfl hl hs).mono ?_
  rintro u M' ⟨rfl,⟨R,hR,hg'⟩,ho,hsz⟩
  have hlen:=hR.len
  refine⟨rfl,⟨R,hR,.inr ⟨fun e=>h0 (qj (by rw[←hlen,e];rfl)),g,hk,by rw[hlen],hg'⟩⟩,fun b y hb hy=>ho b y (by simp;exact fun e=>hb (by rw[e];rfl)) hy,hsz⟩
theorem insHead_split(h:Header):∀l,Rising hid l→∃a b,l=a++b∧insHead l h=a++h::b∧(∀x∈a,hid x≤hid h)∧(∀x∈b,hid h<hid x)
 | [],_=>⟨[],[],rfl,rfl,by simp,by simp⟩
 |x::r,hr=>by
  unfold Rising at hr
  rw[List.pairwise_cons]at hr
  by_cases q:x.id≤h.id
  ·obtain⟨a,b,h1,h2,h3,h4⟩:=insHead_split h r hr.2
   refine⟨x::a,b,by rw[h1];rfl,?_,?_,h4⟩
   ·unfold insHead
    rw[if_pos q,h2]
    rfl
   ·intro y hy
    rcases qi.1 hy with rfl|hy
    ·exact q
    ·exact h3 y hy
  ·refine⟨[],x::r,rfl,?_,by simp,?_⟩
   ·unfold insHead
    rw[if_neg q]
    rfl
   ·intro y hy
    rcases qi.1 hy with rfl|hy
    ·unfold hid;omega
    ·have:=hr.1 y hy
     unfold hid at*
     omega
theorem heads_go(l:List Header):∀X acc,Stable hid X acc→Stable hid (X++l) (l.foldl insHead acc):=by
 induction l with
 |nil=>intro X acc h;rw[qh];exact h
 |cons x l ih=>
  intro X acc h
  obtain⟨a,b,h1,h2,h3,h4⟩:=insHead_split x acc h.rising
  rw[List.foldl_cons,show X++x::l=X++[x]++l by simp]
  refine ih (X++[x]) _ ?_
  rw[h2]
  have hst2:Stable hid (a++b++[x]) (a++x::b):=UX hid (by rw[←h1];exact h.rising) h3 h4
  exact hst2.of_keys hid (fun k=>by rw[Xe,Xe hid k X,←h1,h.keys]) (by rw[←h1];simp[h.len])
theorem heads_stable(l:List Header):Stable hid l (headsOf l):=by
 have:=heads_go l [] [] (Stable.refl hid qt.nil)
 rw[qy]at this
 exact this
theorem heads_eq{l r:List Header}(h:Stable hid l r):r=headsOf l:=Stable.unique hid h (heads_stable l)
end Go.Proofs.YteccmcpaheepcaaGreatDoor
namespace Go.Proofs.YteccmcpaheepcaaGreatDoor
open Go.RowKit Abs
section
variable {key : List UInt8} {a : Arc} {ep st : Int} {G : List Bool}
theorem stage_d1(hk:ArcOk key a){d:Dsk}(hd:d.dead=false){k:Nat}{b:List UInt8}(hb:a.blocks[k]?=some b):
 Dep.stage d (Z2 key a ep st G) a.head.id (k:Int) b=if G.getD k false=true then(d,Z2 key a ep st G,0)else Dep.staged1 d (Z2 key a ep st G) 0 ⟨a.ext,G⟩ (k:Int) b:=by
 have hkl:=(qq.1 hb).1
 have hl:=hk.len
 have hbl:=hk.size b (qu hb)
 unfold Dep.stage
 rw[if_neg (by rw[hd];decide),d1_rec]
 simp only
 rw[if_neg (by show¬((k:Int)<0∨a.head.n≤(k:Int));omega),if_neg (by simp[hbl]),qn]
theorem kept_d0:(U3 key ep st).keptL=[]:=rfl
theorem kept_d2:(Dp2 key a ep st).keptL=[a.head]:=rfl
end
def hello:List UInt8:=[104,101,108,108,111]
theorem wake_plain(key:List UInt8)(a:Arc)(hk:ArcOk key a)(hl:a.blocks.length=1)(b:List UInt8)(hb:a.blocks[0]?=some b):
 ∃d1 G d2 d3,Dep.begin (Jj 20) (U3 key 1 0) a.head=(d1,Z2 key a 1 0 G,0)∧Dep.stage d1 (Z2 key a 1 0 G) a.head.id 0 b=(d2,Z2 key a 1 1 [true],0)∧Dep.commit d2 (Z2 key a 1 1 [true]) a.head.id=(d3,Dp2 key a 1 1,0):=by
 obtain⟨h1,h2,h3,h4,h5⟩:=hist_new 20 (by decide) (by decide) a (fun _=>True)
 have hl6:a.blocks.length≤6:=by omega
 have ln:=hk.len
 rcases sess_begin (ep:=1) (st:=0) hk hl6 h1 h2 h4 h5 h3.1 with⟨b1,b2,b3,b4,b5⟩|⟨b1,_⟩
 ·obtain⟨X,hX⟩:∃X,X=Dep.begin (Jj 20) (U3 key 1 0) a.head:=⟨_,rfl⟩
  rw[←hX]at b1 b2 b3 b4 b5
  have lv1:=b5 h3
  have hf:Xt a=[false]:=by
   unfold Xt
   rw[show a.head.n.toNat=1 by omega]
   rfl
  rw[hf]at b2 b3
  have e1:Dep.begin (Jj 20) (U3 key 1 0) a.head=(X.1,Z2 key a 1 0 [false],0):=by rw[←hX];exact Prod.ext rfl (Prod.ext b2 b1)
  have s1:=stage_d1 (ep:=1) (st:=0) (G:=[false]) hk lv1.1 hb
  rw[if_neg (by simp)]at s1
  rcases sess_stage (ep:=1) (st:=0) hk hl6 b3 lv1.1 0 b hb rfl with⟨c1,c2,c3,c4,c5⟩|⟨c1,_⟩
  ·obtain⟨Y,hY⟩:∃Y,Y=Dep.staged1 X.1 (Z2 key a 1 0 [false]) 0 ⟨a.ext,[false]⟩ ((0:Nat):Int) b:=⟨_,rfl⟩
   rw[←hY]at c1 c2 c3 c4 c5 s1
   have lv2:=c5 lv1
   have hG:([false]:List Bool).set 0 true=qd a.blocks.length true:=by rw[hl];rfl
   rcases sess_commit (ep:=1) (st:=1) hk hl6 hG c3 lv2.1 with⟨f1,f2,_⟩|⟨f1,_⟩
   ·refine⟨X.1,[false],Y.1,(Dep.commit Y.1 (Z2 key a 1 1 [true]) a.head.id).1,e1,?_,?_⟩
    ·show Dep.stage X.1 (Z2 key a 1 0 [false]) a.head.id ((0:Nat):Int) b=_
     rw[s1]
     show Y=(Y.1,Z2 key a 1 1 [true],0)
     exact Prod.ext rfl (Prod.ext c2 c1)
    ·have f1':(Dep.commit Y.1 (Z2 key a 1 1 [true]) a.head.id).2.2=0:=f1
     have f2':(Dep.commit Y.1 (Z2 key a 1 1 [true]) a.head.id).2.1=Dp2 key a 1 1:=f2
     exact Prod.ext rfl (Prod.ext f2' f1')
   ·exact absurd lv2 f1
  ·exact absurd lv1 c1
 ·exact absurd h3 b1
theorem Ke(P p q g:Nat)(d:Dsk)(D:Dep)(hd:Header)(M:Mem)(h:DepAt M P p q g d D)(hkey:D.key.length≤1000000)(h13:13≤d.old.length):
 Abs.Spec qc 16 [.pointer (some ⟨P,0,none⟩),.agg hd.cells.toArray] M fun u M'=>u=.int .i64 (Dep.begin d D hd).2.2∧DepAt M' P p q g (Dep.begin d D hd).1 (Dep.begin d D hd).2.1∧Only [P,p,q,g] M M'∧M.size≤M'.size:=by
 obtain⟨Z,hZ⟩:∃Z,Z=Dep.begin d D hd:=⟨_,rfl⟩
 rw[←hZ]
 unfold Dep.begin at hZ
 have hlen0:=h.dsk.ok.n
 refine WM Tryz.func16 Tryz.results16 Tryz.ntmps16 fun _=>?_
 have bx:QG qc 33 (.agg hd.cells.toArray)=some (.cells false (J6 qc 33) hd.cells):=Ka _ rfl
 have halH:Q9 qc 33=some (.cells false (J6 qc 33) noHead.cells):=al_Hdr
 generalize J6 qc 33=s1 at bx halH
 have halR:Q9 qc 132=some (.cells false (J6 qc 132) noRec.cells):=al_Rec
 generalize J6 qc 132=s2 at halR
 have row7:∀(s:Nat)(x:Header),Jp 7 0 (some (.cells false s x.cells))=some (.agg x.cells.toArray):=fun _ _=>rfl
 have k0:∀(s:Nat)(x:Header),cellIn 0 (some (.cells false s x.cells))=some (.int .i64 x.id):=fun _ _=>rfl
 have agg7:∀x:Header,(Value.agg x.cells.toArray).cells.toList=x.cells:=fun _=>rfl
 have put7:∀(M0:Mem)(b:Nat)(x y:Header),Jg 7 M0 b 0 y.cells (some (.cells false s1 x.cells))=some (M0.set b (some (.cells false s1 y.cells))):=fun _ _ _ _=>rfl
 have row13:∀(s:Nat)(x:Rec),Jp 13 0 (some (.cells false s x.cells))=some (.agg x.cells.toArray):=fun _ _=>rfl
 have agg13:∀x:Rec,(Value.agg x.cells.toArray).cells.toList=x.cells:=fun _=>rfl
 have put13:∀(M0:Mem)(b:Nat)(x y:Rec),Jg 13 M0 b 0 y.cells (some (.cells false s2 x.cells))=some (M0.set b (some (.cells false s2 y.cells))):=fun _ _ _ _=>rfl
 have bdX:∀b:Int,Qf qc 102 [(0,.agg hd.cells.toArray),(1,.int .i64 b)]=some (.agg (⟨hd,b⟩:Ext).cells.toArray):=fun b=>by kernel_rfl
 have bdR:∀(x:Ext)(l:List Bool),Qf qc 132 [(0,.agg x.cells.toArray),(1,X6 l)]=some (.agg (⟨x,l⟩:Rec).cells.toArray):=fun x l=>by kernel_rfl
 obtain⟨b3,hb3⟩:∃b,b=M.size:=⟨_,rfl⟩
 obtain⟨M1,hM1⟩:∃M1,M1=M.push (.cells false s1 hd.cells):=⟨_,rfl⟩
 have mo1:More M M1:=by rw[hM1];exact More.push _ _
 have g3:M1.get b3=some (.cells false s1 hd.cells):=by rw[hM1,hb3,Mem.get_push_new]
 have h1:=h.same mo1.get
 obtain⟨s,vo,vk,hrow,ho,hk⟩:=h1.row
 have l4:vo.length=4:=by rw[ho.len,h1.ok.opn]
 have c0:∀s vo vk,cellIn 0 (some (.cells false s (JM p D vo vk)))=some (dp p):=fun _ _ _=>rfl
 have c1:∀s vo vk,cellIn 1 (some (.cells false s (JM p D vo vk)))=some (.string (str D.key)):=fun _ _ _=>rfl
 have out:∀M':Mem,More M M'→Only [P,p,q,g] M M':=fun M' hm b x _ hb=>hm.get b x hb
 have tail3:∀{M' M'':Mem},Only [p,q,g] M' M''→Only [P,p,q,g] M' M'':=fun h=>h.mono (by simp)
 refine J0 (R1 @bx ?_)
 rw[←hM1,←hb3]
 refine J0 (J0 (R0 ?_))
 refine CF (J4 ?_)
 refine S0 ?_
 refine J0 (J0 (R2 @hrow @c0 ?_))
 refine K0 (dead_spec _ p q g d h1.dsk) ?_
 cases hdd:d.dead with
 |true=>
  rw[if_pos hdd]at hZ
  refine CT (J0 (R0 ?_))
  refine T0 ?_
  subst hZ
  exact⟨_,Thin.refl _,rfl,h1,out _ mo1,by have:=mo1.size;omega⟩
 |false=>
 rw[if_neg (by rw[hdd];decide)]at hZ
 refine CF (J4 ?_)
 refine S0 ?_
 refine J0 (J0 (D4 5 @hrow @c1 @g3 @row7 ?_))
 refine K0 (hverify_at D.key (by omega) hd _) ?_
 refine J0 (R0 ?_)
 refine CC (hd.verify D.key !=0) (fun hq=>J0 (R0 ?_)) (fun hq=>J4 ?_)
 ·rw[if_pos (by simpa using hq)]at hZ
  refine T0 ?_
  subst hZ
  exact⟨_,Thin.refl _,rfl,h1,out _ mo1,by have:=mo1.size;omega⟩
 have hv:hd.verify D.key=0:=by simpa using hq
 rw[if_neg (by simpa using hq)]at hZ
 have hok:=Uk hv
 have hn2:=Ur hok
 refine S0 ?_
 refine J0 (J0 (R2 @g3 @k0 ?_))
 refine⟨by kernel_rfl,_,head_spec P p q g d (some D) _ hd.id M1 ⟨rfl,h1⟩,?_⟩
 rintro _ M2 ⟨rfl,mo2⟩
 have he:headOr (some D) hd.id=D.headAt hd.id:=rfl
 rw[he]
 obtain⟨X,hX⟩:∃X,X=D.headAt hd.id:=⟨_,rfl⟩
 rw[←hX]at hZ ⊢
 refine S4 @halH @Mem.get_push_new @agg7 @put7 ?_
 obtain⟨b6,hb6⟩:∃b,b=M2.size:=⟨_,rfl⟩
 obtain⟨M3,hM3⟩:∃M3,M3=(M2.push (.cells false s1 noHead.cells)).set M2.size (some (.cells false s1 X.1.cells)):=⟨_,rfl⟩
 rw[←hM3,←hb6]
 have g6:M3.get b6=some (.cells false s1 X.1.cells):=by rw[hM3,hb6];exact Mem.get_set_same (Mem.get_push_new _ _) _
 have mo3:More M2 M3:=⟨fun b x hb=>by
  have:=Mem.get_lt hb
  rw[hM3,Mem.get_set_ne (by omega),Mem.get_push_old this];exact hb,by rw[hM3,Mem.size_set,Mem.size_push];omega⟩
 have mo13:=mo2.trans mo3
 have mo03:=mo1.trans mo13
 have h3:=h1.same mo13.get
 have g33:=mo13.get _ _ g3
 have hrow3:=mo13.get _ _ hrow
 refine J0 (R0 ?_)
 refine CC (X.2.2==0) (fun hq=>J0 (J0 (J1 ?_))) (fun hq=>J4 ?_)
 ·rw[if_pos (by simpa using hq)]at hZ
  have hne:=hdr_neq
  refine S4 @g6 @g33 @row7 @hne ?_
  refine CC (!sameH X.1 hd) (fun hq=>J0 (R0 ?_)) (fun hq=>J4 ?_)
  ·refine T0 ?_
   rw[if_neg (fun e=>by rw[e,sameH_self]at hq;cases hq)]at hZ
   subst hZ
   exact⟨_,Thin.refl _,rfl,h3,out _ mo03,by have:=mo03.size;omega⟩
  refine S0 ?_
  refine J0 (R0 ?_)
  refine T0 ?_
  rw[if_pos ((sameH_iff _ _).1 (by simpa using hq))]at hZ
  subst hZ
  exact⟨_,Thin.refl _,rfl,h3,out _ mo03,by have:=mo03.size;omega⟩
 rw[if_neg (by simpa using hq)]at hZ
 have fr:=freerec_spec P 3 s 4 _ M3 _ vo D.opn hrow3 (fun i v hv=>by
  have:=(qq.1 hv).1
  rw[depC_opn _ _ _ _ l4 _ (by omega)];exact hv) (ho.same fun b x _ hb=>mo13.get b x hb) (by rw[h3.ok.opn];decide)
 rw[h3.ok.opn]at fr
 refine S0 ?_
 refine J0 (R2 @hrow3 @sl_A4 ?_)
 refine K0 (fr) ?_
 cases hF:QR D.opn 0 with
 |none=>
  rw[hF]at hZ
  have e1:freeI (none:Option Nat)= -1:=rfl
  have q1:decide ((-1:Int)<0)=true:=rfl
  rw[e1]
  refine J0 (J0 (R1 @q1 ?_))
  refine CT (J0 (R0 ?_))
  refine T0 ?_
  subst hZ
  exact⟨_,Thin.refl _,rfl,h3,out _ mo03,by have:=mo03.size;omega⟩
 |some i=>
 rw[hF]at hZ
 have hi4:i<4:=by have:=(free_in _ _ _ hF).2;rw[h3.ok.opn]at this;omega
 have e1:freeI (some i)=(i:Int):=rfl
 have q1:decide ((i:Int)<0)=false:=decide_eq_false (by omega)
 rw[e1]
 refine J0 (J0 (R1 @q1 ?_))
 refine CF (J4 ?_)
 have k2:∀(s:Nat),cellIn 2 (some (.cells false s hd.cells))=some (.int .i64 hd.n):=fun _=>rfl
 refine S0 ?_
 refine J0 (CW_drawnG hmix [(9,10),(14,15)] (by kernel_rfl) ?_)
 simp only[zZ,reduceIte,yQ,yW,yX,yZ,yJ,yK,yV,zDk,Jc,Jd,Ja,J9,XX,XE,JI,Q8,Qu,isVal,sGuardedV,JG,JU,yY,qm,hrow3,c0,g33,k2]
 refine⟨by kernel_rfl,_,[],at0 (dlen_spec _ p q g d h3.dsk),rfl,?_⟩
 simp only[zZ,reduceIte,yQ,yW,yX,yZ,yJ,yK,yV,zDk,Jc,Jd,Ja,J9,XX,XE,JI,Q8,Qu,isVal,sGuardedV,JG,JU,yY,qm,hrow3,c0,g33,k2]
 obtain⟨V,N,pe,pN,hown⟩:=places_exact P p q g d D M3 h3
 have mo4:More M3 (M3.app N):=⟨fun b x hb=>ZC M3 N b x hb,by rw[UC];omega⟩
 refine⟨by kernel_rfl,_,N,pe,pN,?_⟩
 simp only[zZ,reduceIte,yQ,yW,yX,yZ,yJ,yK,yV,zDk,Jc,Jd,Ja,J9,XX,XE,JI,Q8,Qu,isVal,sGuardedV,JG,JU,yY,qm]
 refine⟨by kernel_rfl,_,room_spec 13 (d.old.length:Nat) hd.n _ _ V D.places hown (places_len h3.ok) (fun y hy=>fit_may (h3.ok.fit y hy) hlen0) (by omega) (by omega) (by omega) (by omega) (by omega),?_⟩
 rintro _ M5 ⟨rfl,mo5⟩
 have mo35:=mo4.trans mo5
 have mo05:=mo03.trans mo35
 have h5:=h3.same mo35.get
 have g35:=mo35.get _ _ g33
 cases hR:VR 13 (d.old.length:Nat) hd.n D.places with
 |none=>
  rw[hR]at hZ
  have e2:roomU none=.tuple #[.int .i64 0,.bool false]:=rfl
  rw[e2]
  simp only[zZ,reduceIte,yQ,yW,yX,yZ,yJ,yK,yV,zDk,Jc,Jd,Ja,J9,XX,XE,JI,Q8,Qu,isVal,sGuardedV,JG,JU,yY,qm]
  refine J0 (J0 (R0 ?_))
  refine CT (J0 (R0 ?_))
  refine T0 ?_
  subst hZ
  exact⟨_,Thin.refl _,rfl,h5,out _ mo05,by have:=mo05.size;omega⟩
 |some base=>
 rw[hR]at hZ
 have e2:roomU (some base)=.tuple #[.int .i64 base,.bool true]:=rfl
 rw[e2]
 simp only[zZ,reduceIte,yQ,yW,yX,yZ,yJ,yK,yV,zDk,Jc,Jd,Ja,J9,XX,XE,JI,Q8,Qu,isVal,sGuardedV,JG,JU,yY,qm]
 refine J0 (J0 (R0 ?_))
 refine CF (J4 ?_)
 obtain⟨rb0,rb1⟩:=roomV_in hR
 have hfit:fitX D.key d.old.length ⟨hd,base⟩:=⟨hv,rb0,rb1⟩
 have hmx:JA ⟨hd,base⟩=true:=fit_may hfit hlen0
 obtain⟨nn,hnn⟩:∃nn:Nat,hd.n=(nn:Int):=⟨hd.n.toNat,by omega⟩
 have k2':∀(s:Nat),cellIn 2 (some (.cells false s hd.cells))=some (.int .i64 (nn:Nat)):=fun _=>by rw[←hnn];rfl
 obtain⟨R,hRe⟩:∃R:Rec,R=⟨⟨hd,base⟩,qd nn false⟩:=⟨_,rfl⟩
 have hRm:R.may=true:=by
  rw[hRe]
  unfold Rec.may
  simp only[hmx,qf,hnn,Bool.true_and]
  simp
 obtain⟨W,hW⟩:∃W,W=d.write ((1+i:Nat):Int) (Qv R):=⟨_,rfl⟩
 obtain⟨Y,hY⟩:∃Y,Y=W.1.sync:=⟨_,rfl⟩
 have hRn:(⟨⟨hd,base⟩,qd hd.n.toNat false⟩:Rec)=R:=by rw[hRe,hnn];rfl
 simp only at hZ
 rw[begin_rest (by rw[hRn];exact hW) hY,hRn]at hZ
 have hlen:W.1.old.length=d.old.length:=by rw[hW];exact QB _ _ _
 have hlen2:Y.1.old.length=W.1.old.length:=by rw[hY];exact sync_len _
 refine S0 ?_
 refine J0 (D4 8 @g35 @row7 @k2' @bdX ?_)
 refine⟨by kernel_rfl,_,bnew_at nn (by omega) _,?_⟩
 have bdR':=bdR ⟨hd,base⟩ (qd nn false)
 rw[←hRe]at bdR'
 refine S5 @bdR' @halR @Mem.get_push_new @agg13 @put13 ?_
 obtain⟨b12,hb12⟩:∃b,b=M5.size:=⟨_,rfl⟩
 obtain⟨M6,hM6⟩:∃M6,M6=(M5.push (.cells false s2 noRec.cells)).set M5.size (some (.cells false s2 R.cells)):=⟨_,rfl⟩
 rw[←hM6,←hb12]
 have g12:M6.get b12=some (.cells false s2 R.cells):=by rw[hM6,hb12];exact Mem.get_set_same (Mem.get_push_new _ _) _
 have mo6:More M5 M6:=⟨fun b x hb=>by
  have:=Mem.get_lt hb
  rw[hM6,Mem.get_set_ne (by omega),Mem.get_push_old this];exact hb,by rw[hM6,Mem.size_set,Mem.size_push];omega⟩
 have mo06:=mo05.trans mo6
 have hs6:=mo06.size
 have h6:=h5.same mo6.get
 have nP:b12∉ [P,p,q,g]:=by
  obtain⟨_,_,_,e,_⟩:=h5.row
  have l1:=Mem.get_lt e
  obtain⟨_,e⟩:=h5.dsk.row
  have l2:=Mem.get_lt e
  have l3:=Mem.get_lt h5.dsk.kv
  have l4:=Mem.get_lt h5.dsk.old
  simp only[qi,List.not_mem_nil,or_false]
  omega
 have nP':b12∉ [p,q,g]:=fun h=>nP (by simp at h ⊢;exact .inr h)
 have ns:=note_spec P p q g d D M6 h6 i hi4 R hRm
 rw[←hW]at ns
 refine J0 (J0 (R2 @g12 @row13 ?_))
 refine⟨by kernel_rfl,_,ns,?_⟩
 rintro _ M7 ⟨rfl,h7,ho7,hs7⟩
 have o7:Only [P,p,q,g] M M7:=(out _ mo06).trans (tail3 ho7)
 refine S0 ?_
 refine J0 (R0 ?_)
 refine CC (W.2 !=0) (fun hq=>J0 (R0 ?_)) (fun hq=>J4 ?_)
 ·rw[if_pos (by simpa using hq)]at hZ
  refine T0 ?_
  subst hZ
  exact⟨_,Thin.refl _,rfl,h7,o7,by omega⟩
 rw[if_neg (by simpa using hq)]at hZ
 obtain⟨s7,vo7,vk7,hrow7,ho7r,hk7⟩:=h7.row
 refine S0 ?_
 refine J0 (J0 (R2 @hrow7 @c0 ?_))
 refine⟨by kernel_rfl,_,sync_spec _ p q g W.1 h7.dsk,?_⟩
 rintro _ M8 ⟨rfl,hd8,ho8,hs8⟩
 rw[←hY]at hd8 ⊢
 have h8:=h7.disk hd8 hlen2 ho8
 have o8:=o7.trans (tail3 ho8)
 refine S0 ?_
 refine J0 (R0 ?_)
 refine CC (Y.2 !=0) (fun hq=>J0 (R0 ?_)) (fun hq=>J4 ?_)
 ·rw[if_pos (by simpa using hq)]at hZ
  refine T0 ?_
  subst hZ
  exact⟨_,Thin.refl _,rfl,h8,o8,by omega⟩
 rw[if_neg (by simpa using hq)]at hZ
 obtain⟨s8,vo8,vk8,hrow8,ho8r,hk8⟩:=h8.row
 have l48:vo8.length=4:=by rw[ho8r.len,h8.ok.opn]
 have l88:vk8.length=8:=by rw[hk8.len,h8.ok.kept]
 have ln:=VH p D vo8 vk8 l48 l88
 have z0:(0:Int)≤(i:Int):=by omega
 have z8:(i:Int)<((4:Nat):Int):=by omega
 have z8':(i:Int)<4:=by omega
 have g128:M8.get b12=some (.cells false s2 R.cells):=ho8 _ _ nP' (ho7 _ _ nP' g12)
 have hput:Jg 1 M8 P (3+i) [.pointer (some ⟨b12,0,none⟩)] (some (.cells false s8 (JM p D vo8 vk8)))=some (M8.set P (some (.cells false s8 ((JM p D vo8 vk8).set (3+i) (.pointer (some ⟨b12,0,none⟩)))))):=by
  simp only[Jg]
  rw[if_pos ⟨rfl,by show 3+i+1≤(JM p D vo8 vk8).length;omega,rfl⟩]
  rfl
 have hfin:=h8.turnO ho8r hk8 hrow8 i hi4 (some R) (fun y hy=>by cases hy;rw[hRe];exact⟨by rw[hlen2,hlen];exact hfit,by rw[qf];exact hnn.symm⟩) (.pointer (some ⟨b12,0,none⟩)) ⟨b12,s2,nP,rfl,g128⟩
 refine S0 ?_
 refine J0 (R7 @hrow8 @z0 @z8 @z8' @and_self @qn @hput ?_)
 refine J0 (R0 ?_)
 refine T0 ?_
 subst hZ
 exact⟨_,Thin.refl _,rfl,hfin,o8.trans (Only.set (by simp) _),by rw[Mem.size_set];omega⟩
end Go.Proofs.YteccmcpaheepcaaGreatDoor
