/-
  The walk of Commit.
-/
import Derived.Test.YteccmcpaheepcaaGreatDoorForg20
import Derived.Test.YteccmcpaheepcaaGreatDoorForg15
import Derived.Test.YteccmcpaheepcaaGreatDoorForg10
import Derived.Test.YteccmcpaheepcaaGreatDoorForg19
import Derived.Test.YteccmcpaheepcaaGreatDoorForg09
set_option linter.unusedSimpArgs false
set_option linter.unusedVariables false
set_option linter.unusedSectionVars false
set_option linter.unnecessarySimpa false
set_option linter.defProp false
set_option maxRecDepth 100000
set_option maxHeartbeats 16000000
open Nat renaming reduceLT → yQ, reduceEqDiff → yK, reduceAdd → yV, reduceSub → yY, reduceMul → yU
open Int renaming reduceToNat → yW, reduceLE → yX, reduceEq → yZ, reduceLT → yJ
open Go.Proofs.Tryz renaming prog → qc, underlying3 → qf, underlying9 → qh
open Nat renaming sub_zero → qd
open List renaming getElem?_eq_getElem → qe, length_singleton → qi, length_map → qj
namespace Go.Proofs.YteccmcpaheepcaaGreatDoor
open Go.RowKit Abs
theorem blocksD_len(d:Dsk)(x:Ext):(Xk d x).1.length≤x.head.n.toNat:=by
 unfold Xk
 split
 ·simp
 ·simp
theorem blocksD_size(d:Dsk)(x:Ext):∀b∈(Xk d x).1,b.length≤224:=by
 unfold Xk
 split
 ·intro b hb;simp at hb
 ·intro b hb
  obtain⟨i,_,rfl⟩:=List.mem_map.1 hb
  rw[List.length_take];omega
theorem commit_spec(P p q g:Nat)(d:Dsk)(D:Dep)(id:Int)(M:Mem)(h:DepAt M P p q g d D):
 Abs.Spec qc 25 [.pointer (some ⟨P,0,none⟩),.int .i64 id] M fun u M'=>u=.int .i64 (Dep.commit d D id).2.2∧DepAt M' P p q g (Dep.commit d D id).1 (Dep.commit d D id).2.1∧Only [P,p,q,g] M M'∧M.size≤M'.size:=by
 obtain⟨Z,hZ⟩:∃Z,Z=Dep.commit d D id:=⟨_,rfl⟩
 rw[←hZ]
 unfold Dep.commit at hZ
 have hlen0:=h.dsk.ok.n
 refine WM Tryz.func25 Tryz.results25 Tryz.ntmps25 fun _=>?_
 have halX:Q9 qc 102=some (.cells false (J6 qc 102) noExt.cells):=al_Ext
 generalize J6 qc 102=s1 at halX
 have rowX:∀(s:Nat)(x:Rec),Jp 8 0 (some (.cells false s x.cells))=some (.agg x.x.cells.toArray):=fun _ _=>rfl
 have rowS:∀(s:Nat)(x:Rec),Jp 5 8 (some (.cells false s x.cells))=some (X6 x.got):=fun _ _=>rfl
 have row8:∀(s:Nat)(x:Ext),Jp 8 0 (some (.cells false s x.cells))=some (.agg x.cells.toArray):=fun _ _=>rfl
 have k5:∀(s:Nat)(x:Ext),cellIn 5 (some (.cells false s x.cells))=some (.string x.head.root):=fun _ _=>rfl
 have agg8:∀x:Ext,(Value.agg x.cells.toArray).cells.toList=x.cells:=fun _=>rfl
 have put8:∀(M0:Mem)(b:Nat)(x y:Ext),Jg 8 M0 b 0 y.cells (some (.cells false s1 x.cells))=some (M0.set b (some (.cells false s1 y.cells))):=fun _ _ _ _=>rfl
 have c0:∀s (D':Dep) vo vk,cellIn 0 (some (.cells false s (JM p D' vo vk)))=some (dp p):=fun _ _ _ _=>rfl
 have out:∀M':Mem,More M M'→Only [P,p,q,g] M M':=fun M' hm b x _ hb=>hm.get b x hb
 have tail3:∀{M' M'':Mem},Only [p,q,g] M' M''→Only [P,p,q,g] M' M'':=fun h=>h.mono (by simp)
 refine J0 (R0 ?_)
 refine J0 (R0 ?_)
 refine⟨by kernel_rfl,_,find_spec P p q g d D id M h,?_⟩
 rintro _ M1 ⟨rfl,mo1⟩
 have h1:=h.same mo1.get
 have hs1:=mo1.size
 obtain⟨s,vo,vk,hrow,ho,hk⟩:=h1.row
 refine S0 ?_
 refine J0 (J8 (J0 (R2 @hrow @c0 ?_)))
 refine K0 (dead_spec _ p q g d h1.dsk) ?_
 cases hdd:d.dead with
 |true=>
  rw[if_pos hdd]at hZ
  refine CT (J0 (R0 ?_))
  refine T0 ?_
  subst hZ
  exact⟨_,Thin.refl _,rfl,h1,out _ mo1,hs1⟩
 |false=>
 rw[if_neg (by rw[hdd];decide)]at hZ
 refine CF (J0 (J1 ?_))
 cases hE:D.ext? id with
 |some y=>
  obtain⟨j,y⟩:=y
  rw[hE]at hZ
  have q1:decide ((j:Int)≥0)=true:=by simp
  simp only[ZU]
  refine S1 @q1 ?_
  refine CT (J0 (R0 ?_))
  refine T0 ?_
  subst hZ
  exact⟨_,Thin.refl _,rfl,h1,out _ mo1,hs1⟩
 |none=>
 rw[hE]at hZ
 have q1:decide ((-1:Int)≥0)=false:=rfl
 simp only[ZV]
 refine S1 @q1 ?_
 refine CF (J0 (J1 ?_))
 cases hR:D.rec? id with
 |none=>
  rw[hR]at hZ
  have q2:decide ((-1:Int)<0)=true:=rfl
  simp only[ZV]
  refine S1 @q2 ?_
  refine CT (J0 (R0 ?_))
  refine T0 ?_
  subst hZ
  exact⟨_,Thin.refl _,rfl,h1,out _ mo1,hs1⟩
 |some y=>
 obtain⟨j,r⟩:=y
 rw[hR]at hZ
 simp only at hZ
 obtain⟨hj,b,s',r1,hbK,gb⟩:=h1.recAt (Zw hR).1
 have fit:=h1.ok.fitO r (List.mem_of_getElem? (Zw hR).1)
 obtain⟨fv,fb0,fb1,fgl⟩:=fit
 have hn2:=Ur (Uk fv)
 have hfit:fitX D.key d.old.length r.x:=⟨fv,fb0,fb1⟩
 have hmx:JA r.x=true:=fit_may hfit hlen0
 have gl:r.got.length≤256:=by omega
 have q2:decide ((j:Int)<0)=false:=decide_eq_false (by omega)
 have z0:(0:Int)≤(j:Int):=by omega
 have z8:(j:Int)<((4:Nat):Int):=by omega
 have z8':(j:Int)<4:=by omega
 rw[hrow]at r1
 simp only[ZU]
 refine S1 @q2 ?_
 refine CF (J0 (R9 @z0 @z8 @z8' @and_self @Int.toNat_natCast @hrow @r1 @gb @rowS ?_))
 refine K0 (full_at r.got gl M1) ?_
 refine CC (!(r.got.all fun b=>b)) (fun hq=>J0 (R0 ?_)) (fun hq=>J4 ?_)
 ·rw[if_pos (by simpa using hq)]at hZ
  refine T0 ?_
  subst hZ
  exact⟨_,Thin.refl _,rfl,h1,out _ mo1,hs1⟩
 rw[if_neg (by simpa using hq)]at hZ
 refine S0 ?_
 refine J0 (J1 ?_)
 simp only[zZ,reduceIte,yQ,yW,yX,yZ,yJ,yK,yV,zDk,Jc,Jd,Ja,J9,XX,z0,z8,z8',and_self,Int.toNat_natCast,hrow,r1,gb,rowX,halX,Mem.get_push_new,agg8,put8]
 obtain⟨b7,hb7⟩:∃b,b=M1.size:=⟨_,rfl⟩
 obtain⟨M2,hM2⟩:∃M2,M2=(M1.push (.cells false s1 noExt.cells)).set M1.size (some (.cells false s1 r.x.cells)):=⟨_,rfl⟩
 rw[←hM2,←hb7]
 have g7:M2.get b7=some (.cells false s1 r.x.cells):=by rw[hM2,hb7];exact Mem.get_set_same (Mem.get_push_new _ _) _
 have mo2:More M1 M2:=⟨fun b x hb=>by
  have:=Mem.get_lt hb
  rw[hM2,Mem.get_set_ne (by omega),Mem.get_push_old this];exact hb,by rw[hM2,Mem.size_set,Mem.size_push];omega⟩
 have mo02:=mo1.trans mo2
 have h2:=h1.same mo2.get
 refine J0 (R2 @g7 @row8 ?_)
 refine⟨by kernel_rfl,_,blocks_spec P p q g d D M2 h2 r.x r.x.head.n.toNat (by omega) fb0 fb1,?_⟩
 rintro _ M3 ⟨V,rfl,hown,mo3⟩
 have mo03:=mo02.trans mo3
 have h3:=h2.same mo3.get
 have g73:=mo3.get _ _ g7
 have eb:(Xk d r.x).2=0:=by unfold Xk;rw[if_neg (by rw[hdd];simp)]
 rw[eb]
 have q3:((0:Int) !=0)=false:=rfl
 refine S0 ?_
 refine J0 (J0 (R1 @q3 ?_))
 refine CF (J4 ?_)
 obtain⟨L,hL⟩:∃L,L=(Xk d r.x).1:=⟨_,rfl⟩
 have hLl:L.length≤256:=by rw[hL];have:=blocksD_len d r.x;omega
 have hLs:∀b∈L,b.length≤1000000:=fun b hb=>by rw[hL]at hb;have:=blocksD_size d r.x b hb;omega
 rw[←hL]at hown hZ
 obtain⟨N,pe,pN⟩:=aroot_exact L (by omega) hLs M3 V hown.strs
 have mo4:More M3 (M3.app N):=⟨fun b x hb=>ZC M3 N b x hb,by rw[UC];omega⟩
 refine S0 ?_
 refine J0 (J0 (CW_drawG hmix 5 (by kernel_rfl) (by kernel_rfl) ?_))
 simp only[zZ,reduceIte,yQ,yW,yX,yZ,yJ,yK,yV,zDk,Jc,Jd,Ja,J9,XX,XE,JI,Q8,Qu,isVal,sGuardedV,JG,JU,yY,qd]
 refine⟨by kernel_rfl,_,N,pe,pN,?_⟩
 obtain⟨M4,hM4⟩:∃M4,M4=M3.app N:=⟨_,rfl⟩
 have mo04:More M M4:=by rw[hM4];exact mo03.trans mo4
 have h4:DepAt M4 P p q g d D:=by rw[hM4];exact h3.same mo4.get
 have g74:M4.get b7=some (.cells false s1 r.x.cells):=by rw[hM4];exact mo4.get _ _ g73
 have hs4:=mo04.size
 simp only[zZ,reduceIte,yQ,yW,yX,yZ,yJ,yK,yV,zDk,Jc,Jd,Ja,J9,XX,XE,JI,Q8,Qu,isVal,sGuardedV,JG,JU,yY,qd,g73,k5]
 rw[←hM4]
 refine CC (!beqB (str (rootV L)) r.x.head.root) (fun hq=>J0 (R0 ?_)) (fun hq=>J4 ?_)
 ·rw[if_pos (fun e=>by rw[e,beqB_dec]at hq;simp at hq)]at hZ
  refine T0 ?_
  subst hZ
  exact⟨_,Thin.refl _,rfl,h4,out _ mo04,hs4⟩
 rw[if_neg (fun hne=>by
  apply hne
  rw[beqB_dec]at hq
  simpa using hq)]at hZ
 obtain⟨s4,vo4,vk4,hrow4,ho4,hk4⟩:=h4.row
 have l44:vo4.length=4:=by rw[ho4.len,h4.ok.opn]
 have l84:vk4.length=8:=by rw[hk4.len,h4.ok.kept]
 have fr:=freeext_spec P 7 s4 8 _ M4 _ vk4 D.kept hrow4 (fun i v hv=>by
  have:=(List.getElem?_eq_some_iff.1 hv).1
  rw[depC_kept _ _ _ _ l44 l84 _ (by omega)];exact hv) hk4 (by rw[h4.ok.kept];decide)
 rw[h4.ok.kept]at fr
 refine S0 ?_
 refine J0 (R2 @hrow4 @sl_A8 ?_)
 refine K0 (fr) ?_
 cases hF:QR D.kept 0 with
 |none=>
  rw[hF]at hZ
  have e1:freeI (none:Option Nat)= -1:=rfl
  have q4:decide ((-1:Int)<0)=true:=rfl
  rw[e1]
  refine J0 (J0 (R1 @q4 ?_))
  refine CT (J0 (R0 ?_))
  refine T0 ?_
  subst hZ
  exact⟨_,Thin.refl _,rfl,h4,out _ mo04,hs4⟩
 |some i=>
 rw[hF]at hZ
 simp only at hZ
 have hi8:i<8:=by have:=(free_in _ _ _ hF).2;rw[h4.ok.kept]at this;omega
 have e1:freeI (some i)=(i:Int):=rfl
 have q4:decide ((i:Int)<0)=false:=decide_eq_false (by omega)
 rw[e1]
 refine J0 (J0 (R1 @q4 ?_))
 refine CF (J4 ?_)
 have ks:=keep_spec P p q g d D M4 h4 i hi8 r.x hmx hfit
 obtain⟨K,hK⟩:∃K,K=Dep.keep d D i r.x:=⟨_,rfl⟩
 rw[←hK]at ks hZ
 have hKl:K.1.old.length=d.old.length:=by
  rw[hK,keep_rest]
  split
  ·exact QB _ _ _
  ·split
   ·exact(sync_len _).trans (QB _ _ _)
   ·exact(sync_len _).trans (QB _ _ _)
 refine S0 ?_
 refine J0 (J0 (R2 @g74 @row8 ?_))
 refine⟨by kernel_rfl,_,ks,?_⟩
 rintro _ M5 ⟨rfl,h5,o5,hs5⟩
 have o05:=(out _ mo04).trans o5
 refine S0 ?_
 refine J0 (R0 ?_)
 refine CC (K.2.2 !=0) (fun hq=>J0 (R0 ?_)) (fun hq=>J4 ?_)
 ·rw[if_pos (by simpa using hq)]at hZ
  refine T0 ?_
  subst hZ
  exact⟨_,Thin.refl _,rfl,h5,o05,by omega⟩
 rw[if_neg (by simpa using hq)]at hZ
 have hKo:K.2.1.opn=D.opn:=by
  rw[hK,keep_rest]
  split
  ·rfl
  ·split<;>rfl
 obtain⟨s5,vo5,vk5,hrow5,ho5r,hk5⟩:=h5.row
 have l45:vo5.length=4:=by rw[ho5r.len,h5.ok.opn]
 have l85:vk5.length=8:=by rw[hk5.len,h5.ok.kept]
 have ln:=VH p K.2.1 vo5 vk5 l45 l85
 have hput:Jg 1 M5 P (3+j) [.pointer none] (some (.cells false s5 (JM p K.2.1 vo5 vk5)))=some (M5.set P (some (.cells false s5 ((JM p K.2.1 vo5 vk5).set (3+j) (.pointer none))))):=by
  simp only[Jg]
  rw[if_pos ⟨rfl,by show 3+j+1≤(JM p K.2.1 vo5 vk5).length;omega,rfl⟩]
  rfl
 have h6:=h5.turnO ho5r hk5 hrow5 j hj none (fun y hy=>by cases hy) (.pointer none) rfl
 rw[hKo]at h6
 obtain⟨M6,hM6⟩:∃M6,M6=M5.set P (some (.cells false s5 ((JM p K.2.1 vo5 vk5).set (3+j) (.pointer none)))):=⟨_,rfl⟩
 have o06:Only [P,p,q,g] M M6:=by rw[hM6];exact o05.trans (Only.set (by simp) _)
 have hs6:M6.size=M5.size:=by rw[hM6,Mem.size_set]
 rw[←hM6]at h6 hput
 obtain⟨s6,vo6,vk6,hrow6,ho6r,hk6⟩:=h6.row
 have w1:IntKind.i64.wrap (1+(j:Int))=((1+j:Nat):Int):=by rw[Xx (by omega) (by omega)];omega
 obtain⟨U,hU⟩:∃U,U=K.1.write ((1+j:Nat):Int) []:=⟨_,rfl⟩
 have ws:=XQ M6 p q g K.1 h6.dsk ((1+j:Nat):Int) [] (by simp)
 rw[←hU]at ws hZ
 have hul:U.1.old.length=K.1.old.length:=by rw[hU];exact QB _ _ _
 refine S0 ?_
 refine J0 (R7 @hrow5 @z0 @z8 @z8' @and_self @Int.toNat_natCast @hput ?_)
 refine J0 (R3 @hrow6 @c0 @w1 ?_)
 refine⟨by kernel_rfl,_,ws,?_⟩
 rintro _ M7 ⟨rfl,hd7,ho7,hs7⟩
 have ho7':Only [p,q,g] M6 M7:=ho7.mono (by simp)
 have h7:=h6.disk hd7 hul ho7'
 refine S0 ?_
 refine T0 ?_
 subst hZ
 exact⟨_,Thin.refl _,rfl,h7,o06.trans (tail3 ho7'),by omega⟩
end Go.Proofs.YteccmcpaheepcaaGreatDoor
namespace Go.Proofs.YteccmcpaheepcaaGreatDoor
open Go.RowKit Abs Stab
theorem Hdr_zero:Tryz.t33.zero=some (.agg noHead.cells.toArray):=by kernel_rfl
theorem Hdr_bytes:Tryz.t33.bytes≤1000:=by decide
theorem new_hdr1(x:Header):Jy qc 47 1 [(0,.agg x.cells.toArray)]=some (.cells false 7 x.cells):=by kernel_rfl
theorem hdapp{k:Nat}{M:Mem}{V:Value}{L:List Header}(h:Xw k M V L)(hk:k≤M.size)(hl:L.length≤1000000)(x:Header):
 ∃M' V',JJ qc (M.push (.cells false 7 x.cells)) 47 47 V (.slice (some ⟨M.size,0,none⟩) 1 1)=some (V',M')∧Qz V'=some (M.size+1)∧Xw k M' V' (L++[x])∧
  M'.size=M.size+2∧(∀b y,Qz V≠some b→M.get b=some y→M'.get b=some y):=
 oapp Tryz.underlying47 inf_Hdr Hdr_zero sz_Hdr rfl Tryz.underlying47 (fun _=>rfl) Hdr_bytes h hk hl x 7
theorem keptcmp_ok:CmpOk 81:=by
 refine⟨by kernel_rfl,fun a b ha hb m=>?_⟩
 refine Abs.Spec.of_empty (by intro x hx;simp at hx;rcases hx with rfl|rfl<;>rfl) rfl ?_ m
 have w:IntKind.i64.wrap (a.id-b.id)=a.id-b.id:=Xx (by omega) (by omega)
 have b1:QG qc 33 (.agg a.cells.toArray)=some (.cells false (J6 qc 33) a.cells):=Ka _ rfl
 have b2:QG qc 33 (.agg b.cells.toArray)=some (.cells false (J6 qc 33) b.cells):=Ka _ rfl
 generalize J6 qc 33=s1 at b1 b2
 have c1:∀h:Header,cellIn 0 (some (.cells false s1 h.cells))=some (.int .i64 h.id):=fun h=>rfl
 have g1:(((⟨[]⟩:Mem).push (.cells false s1 a.cells)).push (.cells false s1 b.cells)).get (⟨[]⟩:Mem).size=some (.cells false s1 a.cells):=rfl
 have g2:(((⟨[]⟩:Mem).push (.cells false s1 a.cells)).push (.cells false s1 b.cells)).get ((⟨[]⟩:Mem).push (.cells false s1 a.cells)).size=some (.cells false s1 b.cells):=rfl
 refine WM Tryz.func81 Tryz.results81 Tryz.ntmps81 fun _=>?_
 refine J0 (R2 @b1 @b2 ?_)
 refine J0 (R4 @g1 @g2 @c1 @w ?_)
 refine T0 ?_
 first|exact⟨_,Thin.refl _,rfl⟩|exact⟨_,Thin.refl _⟩|exact⟨_,Thin.refl _,rfl,rfl⟩
theorem kept_spec(P p q g:Nat)(d:Dsk)(D:Dep)(M:Mem)(h:DepAt M P p q g d D):
 Abs.Spec qc 30 [.pointer (some ⟨P,0,none⟩)] M fun u M'=>Xw M.size M' u D.keptL∧More M M':=by
 refine WM Tryz.func30 Tryz.results30 Tryz.ntmps30 fun _=>?_
 obtain⟨s,vo,vk,hrow,ho,hk⟩:=h.row
 have l4:vo.length=4:=by rw[ho.len,h.ok.opn]
 have l8:vk.length=8:=by rw[hk.len,h.ok.kept]
 have rk:=row_kept s p D l4 l8
 have z9:∀i:Nat,i<100→IntKind.i64.wrap ((i:Int)+1)=((i+1:Nat):Int):=fun i hi=>by rw[Xx (by omega) (by omega)];omega
 refine J0 (R0 ?_)
 refine J0 (R0 ?_)
 refine Xv (fun f M'=>∃V,f=[(3,V)]∧Xw M.size M' V ((D.kept.filterMap id).map Ext.head)∧(∀b x,b<M.size→M.get b=some x→M'.get b=some x)∧M.size≤M'.size) ?_ ?_
 ·refine J0 (R0 ?_)
  refine CT (J0 (R2 @hrow @rk ?_))
  refine J8 (Jq (fun j f M'=>∃(i:Nat)(V:Value),j=8-i∧f=[(3,V),(11,.agg vk.toArray),(12,.int .i64 (i:Nat))]∧i≤8∧
   Xw M.size M' V (((D.kept.take i).filterMap id).map Ext.head)∧(∀b x,b<M.size→M.get b=some x→M'.get b=some x)∧M.size≤M'.size) 8 ?_ ?_)
  ·refine JK [3,11,12] ?_
   exact⟨M,Thin.refl _,0,_,rfl,rfl,by omega,OwnL.nil _ _,fun _ _ _ h=>h,Nat.le_refl _⟩
  ·rintro j f M' ⟨i,V,rfl,rfl,hi,hown,hold,hsz⟩
   refine J0 (R0 ?_)
   refine J0 (CC (decide ((i:Int)<8)) (fun hq=>J4 ?_) (fun hq=>Jr ?_))
   ·have hi8:=of_decide_eq_true hq
    obtain⟨o,hoi⟩:∃o,D.kept[i]?=some o:=⟨_,qe (by rw[h.ok.kept];omega)⟩
    obtain⟨v,hv,hp⟩:=hk.at_ i o hoi
    have ix:=ix_A8 l8 hv
    have hst:=filtm_step hoi
    have w9:=z9 i (by omega)
    refine S0 ?_
    refine J0 (J8 (J0 (R1 @ix ?_)))
    refine J0 (J1 ?_)
    cases o with
    |none=>
     obtain rfl:v=.pointer none:=hp
     rw[Option.toList_none,List.append_nil]at hst
     refine S0 ?_
     refine CF (J4 ?_)
     refine S0 ?_
     refine R1 @w9 ?_
     refine JK [3,11,12] ?_
     exact⟨_,Thin.refl _,8-(i+1),⟨i+1,V,rfl,rfl,by omega,by rw[hst];exact hown,hold,hsz⟩,by omega⟩
    |some x=>
     obtain⟨b,s',hb,rfl,gb⟩:=hp
     rw[Option.toList_some]at hst
     have gb':=hold _ _ (Mem.get_lt gb) gb
     have rx:Jp 7 0 (some (.cells false s' x.cells))=some (.agg (x.head).cells.toArray):=rfl
     have nw:=new_hdr1 (x.head)
     obtain⟨M4,V4,ap4,hb4,hown4,hs4,hold4⟩:=hdapp hown hsz (by have:=filtm_len D.kept i;rw[h.ok.kept]at this;rw[qj];omega) (x.head)
     refine S0 ?_
     refine CT (R4 @gb' @rx @nw @ap4 ?_)
     refine R1 @w9 ?_
     refine JK [3,11,12] ?_
     have e4:((D.kept.take i).filterMap id).map Ext.head++[x.head]=((D.kept.take (i+1)).filterMap id).map Ext.head:=by rw[hst,List.map_append];rfl
     rw[e4]at hown4
     exact⟨_,Thin.refl _,8-(i+1),⟨i+1,V4,rfl,rfl,by omega,hown4,fun b y hb hy=>hold4 b y (fun e=>by have:=(hown.live e).1;omega) (hold b y hb hy),by omega⟩,by omega⟩
   ·have hi8:=of_decide_eq_false hq
    obtain rfl:i=8:=by omega
    rw[List.take_of_length_le (by rw[h.ok.kept];decide)]at hown
    refine JK [3] ?_
    exact⟨_,Thin.refl _,V,rfl,hown,hold,hsz⟩
 rintro _ M2 ⟨V2,rfl,hown2,hold2,hs2⟩
 have so:=sorth_own 81 keptcmp_ok M.size M2 V2 _ hown2 (by rw[qj];have:=List.length_filterMap_le id D.kept;rw[h.ok.kept]at this;omega) (fun x hx=>by
  obtain⟨y,hy,rfl⟩:=List.mem_map.1 hx
  obtain⟨o,ho1,ho2⟩:=List.mem_filterMap.1 hy
  cases ho2
  have:=(Uk (h.ok.fitK y ho1).1)
  have h1:=this.1
  have h2:=this.2.1
  exact⟨by omega,by omega⟩)
 unfold cmpH at so
 refine J0 (R0 ?_)
 refine⟨by kernel_rfl,_,so,?_⟩
 rintro _ M3 ⟨rfl,⟨R,hR,hown3⟩,hold3,hs3⟩
 rw[heads_eq hR]at hown3
 refine S0 ?_
 refine J0 (R0 ?_)
 refine T0 ?_
 exact⟨_,Thin.refl _,hown3,fun b x hb=>hold3 b x (fun e=>by have:=(hown2.live e).1;have:=Mem.get_lt hb;omega) (hold2 b x (Mem.get_lt hb) hb),by omega⟩
theorem undercmp_ok:CmpOk 67:=by
 refine⟨by kernel_rfl,fun a b ha hb m=>?_⟩
 refine Abs.Spec.of_empty (by intro x hx;simp at hx;rcases hx with rfl|rfl<;>rfl) rfl ?_ m
 have w:IntKind.i64.wrap (a.id-b.id)=a.id-b.id:=Xx (by omega) (by omega)
 have b1:QG qc 33 (.agg a.cells.toArray)=some (.cells false (J6 qc 33) a.cells):=Ka _ rfl
 have b2:QG qc 33 (.agg b.cells.toArray)=some (.cells false (J6 qc 33) b.cells):=Ka _ rfl
 generalize J6 qc 33=s1 at b1 b2
 have c1:∀h:Header,cellIn 0 (some (.cells false s1 h.cells))=some (.int .i64 h.id):=fun h=>rfl
 have g1:(((⟨[]⟩:Mem).push (.cells false s1 a.cells)).push (.cells false s1 b.cells)).get (⟨[]⟩:Mem).size=some (.cells false s1 a.cells):=rfl
 have g2:(((⟨[]⟩:Mem).push (.cells false s1 a.cells)).push (.cells false s1 b.cells)).get ((⟨[]⟩:Mem).push (.cells false s1 a.cells)).size=some (.cells false s1 b.cells):=rfl
 refine WM Tryz.func67 Tryz.results67 Tryz.ntmps67 fun _=>?_
 refine J0 (R2 @b1 @b2 ?_)
 refine J0 (R4 @g1 @g2 @c1 @w ?_)
 refine T0 ?_
 first|exact⟨_,Thin.refl _,rfl⟩|exact⟨_,Thin.refl _⟩|exact⟨_,Thin.refl _,rfl,rfl⟩
theorem under_spec(P p q g:Nat)(d:Dsk)(D:Dep)(M:Mem)(h:DepAt M P p q g d D):
 Abs.Spec qc 18 [.pointer (some ⟨P,0,none⟩)] M fun u M'=>Xw M.size M' u D.underL∧More M M':=by
 refine WM Tryz.func18 Tryz.results18 Tryz.ntmps18 fun _=>?_
 obtain⟨s,vo,vk,hrow,ho,hk⟩:=h.row
 have l4:vo.length=4:=by rw[ho.len,h.ok.opn]
 have l8:vk.length=8:=by rw[hk.len,h.ok.kept]
 have rk:=row_opn s p D l4 l8
 have z9:∀i:Nat,i<100→IntKind.i64.wrap ((i:Int)+1)=((i+1:Nat):Int):=fun i hi=>by rw[Xx (by omega) (by omega)];omega
 refine J0 (R0 ?_)
 refine J0 (R0 ?_)
 refine Xv (fun f M'=>∃V,f=[(3,V)]∧Xw M.size M' V ((D.opn.filterMap id).map (fun r:Rec=>r.x.head))∧(∀b x,b<M.size→M.get b=some x→M'.get b=some x)∧M.size≤M'.size) ?_ ?_
 ·refine J0 (R0 ?_)
  refine CT (J0 (R2 @hrow @rk ?_))
  refine J8 (Jq (fun j f M'=>∃(i:Nat)(V:Value),j=4-i∧f=[(3,V),(11,.agg vo.toArray),(12,.int .i64 (i:Nat))]∧i≤4∧
   Xw M.size M' V (((D.opn.take i).filterMap id).map (fun r:Rec=>r.x.head))∧(∀b x,b<M.size→M.get b=some x→M'.get b=some x)∧M.size≤M'.size) 4 ?_ ?_)
  ·refine JK [3,11,12] ?_
   exact⟨M,Thin.refl _,0,_,rfl,rfl,by omega,OwnL.nil _ _,fun _ _ _ h=>h,Nat.le_refl _⟩
  ·rintro j f M' ⟨i,V,rfl,rfl,hi,hown,hold,hsz⟩
   refine J0 (R0 ?_)
   refine J0 (CC (decide ((i:Int)<4)) (fun hq=>J4 ?_) (fun hq=>Jr ?_))
   ·have hi8:=of_decide_eq_true hq
    obtain⟨o,hoi⟩:∃o,D.opn[i]?=some o:=⟨_,qe (by rw[h.ok.opn];omega)⟩
    obtain⟨v,hv,hp⟩:=ho.at_ i o hoi
    have ix:=ix_A4 l4 hv
    have hst:=filtm_step hoi
    have w9:=z9 i (by omega)
    refine S0 ?_
    refine J0 (J8 (J0 (R1 @ix ?_)))
    refine J0 (J1 ?_)
    cases o with
    |none=>
     obtain rfl:v=.pointer none:=hp
     rw[Option.toList_none,List.append_nil]at hst
     refine S0 ?_
     refine CF (J4 ?_)
     refine S0 ?_
     refine R1 @w9 ?_
     refine JK [3,11,12] ?_
     exact⟨_,Thin.refl _,4-(i+1),⟨i+1,V,rfl,rfl,by omega,by rw[hst];exact hown,hold,hsz⟩,by omega⟩
    |some x=>
     obtain⟨b,s',hb,rfl,gb⟩:=hp
     rw[Option.toList_some]at hst
     have gb':=hold _ _ (Mem.get_lt gb) gb
     have rx:Jp 7 0 (some (.cells false s' x.cells))=some (.agg (x.x.head).cells.toArray):=rfl
     have nw:=new_hdr1 (x.x.head)
     obtain⟨M4,V4,ap4,hb4,hown4,hs4,hold4⟩:=hdapp hown hsz (by have:=filtm_len D.opn i;rw[h.ok.opn]at this;rw[qj];omega) (x.x.head)
     refine S0 ?_
     refine CT (R4 @gb' @rx @nw @ap4 ?_)
     refine R1 @w9 ?_
     refine JK [3,11,12] ?_
     have e4:((D.opn.take i).filterMap id).map (fun r:Rec=>r.x.head)++[x.x.head]=((D.opn.take (i+1)).filterMap id).map (fun r:Rec=>r.x.head):=by rw[hst,List.map_append];rfl
     rw[e4]at hown4
     exact⟨_,Thin.refl _,4-(i+1),⟨i+1,V4,rfl,rfl,by omega,hown4,fun b y hb hy=>hold4 b y (fun e=>by have:=(hown.live e).1;omega) (hold b y hb hy),by omega⟩,by omega⟩
   ·have hi8:=of_decide_eq_false hq
    obtain rfl:i=4:=by omega
    rw[List.take_of_length_le (by rw[h.ok.opn];decide)]at hown
    refine JK [3] ?_
    exact⟨_,Thin.refl _,V,rfl,hown,hold,hsz⟩
 rintro _ M2 ⟨V2,rfl,hown2,hold2,hs2⟩
 have so:=sorth_own 67 undercmp_ok M.size M2 V2 _ hown2 (by rw[qj];have:=List.length_filterMap_le id D.opn;rw[h.ok.opn]at this;omega) (fun x hx=>by
  obtain⟨y,hy,rfl⟩:=List.mem_map.1 hx
  obtain⟨o,ho1,ho2⟩:=List.mem_filterMap.1 hy
  cases ho2
  have:=(Uk (h.ok.fitO y ho1).1)
  have h1:=this.1
  have h2:=this.2.1
  exact⟨by omega,by omega⟩)
 unfold cmpH at so
 refine J0 (R0 ?_)
 refine⟨by kernel_rfl,_,so,?_⟩
 rintro _ M3 ⟨rfl,⟨R,hR,hown3⟩,hold3,hs3⟩
 rw[heads_eq hR]at hown3
 refine S0 ?_
 refine J0 (R0 ?_)
 refine T0 ?_
 exact⟨_,Thin.refl _,hown3,fun b x hb=>hold3 b x (fun e=>by have:=(hown2.live e).1;have:=Mem.get_lt hb;omega) (hold2 b x (Mem.get_lt hb) hb),by omega⟩
end Go.Proofs.YteccmcpaheepcaaGreatDoor
namespace Go.Proofs.YteccmcpaheepcaaGreatDoor
open Go.RowKit Abs
theorem hdrs_len{k:Nat}{M:Mem}{V:Value}{L:List Header}(h:Xw k M V L):∃a c,V=.slice a L.length c:=OwnL.len h
theorem XD(M:Mem):Abs.Spec qc 15 [] M fun u M'=>u=.bool true∧More M M':=by
 obtain⟨key,hkey⟩:∃k,k=Sha.headKey ([115]:List UInt8):=⟨_,rfl⟩
 have hkl:key.length≤1000000:=by rw[hkey,ZK];decide
 obtain⟨A,hA⟩:∃A,A=Va [115] saltL 1 hello 1000:=⟨_,rfl⟩
 have hmade:madeOf [115] [hello]=[A]:=by rw[hA];rfl
 have hok:ArcOk key A:=by
  have:=(made_ok (sec:=[115]) (T:=[hello]) (a:=A) (by rw[hmade];simp)).1
  rw[hkey];exact this
 have hbl:A.blocks.length=1:=by rw[hA,arcOf_len];rfl
 obtain⟨b0,hb0⟩:∃b,A.blocks[0]?=some b:=⟨_,qe (by omega)⟩
 have hb224:b0.length=224:=hok.size b0 (List.mem_of_getElem? hb0)
 have hid:A.head.id=1:=by rw[hA];rfl
 obtain⟨d1,G,d2,d3,w1,w2,w3⟩:=wake_plain key A hok hbl b0 hb0
 rw[hid]at w2 w3
 have e1:(⟨#[115]⟩:ByteArray)=str [115]:=rfl
 have e5:(⟨#[104,101,108,108,111]⟩:ByteArray)=str hello:=rfl
 have q0:((0:Int) !=0)=false:=rfl
 have q1:((1:Int) !=1)=false:=rfl
 have q2:((0:Int)==0)=true:=rfl
 have q3:(((1:Nat):Int)==1)=true:=rfl
 have q4:(((0:Nat):Int) !=0)=false:=rfl
 refine WM Tryz.func15 Tryz.results15 Tryz.ntmps15 fun _=>?_
 refine J0 (R0 ?_)
 refine J0 (R0 ?_)
 refine⟨by kernel_rfl,_,new_spec M 20 (by decide) (by decide),?_⟩
 rintro _ M1 ⟨p,q,g,rfl,hd1,hp,hq,hg,ho1,hs1⟩
 have hdp:dp p=.pointer (some ⟨p,0,none⟩):=rfl
 have pl:p<M1.size:=by obtain⟨s,h⟩:=hd1.row;exact Q2 h
 have ql:q<M1.size:=Q2 hd1.kv
 have gl:g<M1.size:=Q2 hd1.old
 refine S0 ?_
 obtain⟨M2,hM2⟩:∃M2,M2=M1.push (.cells false 1 (encS hello)):=⟨_,rfl⟩
 have hs2:M2.size=M1.size+1:=by rw[hM2,Mem.size_push]
 have nw:=Vx hello
 have rd:StrsRd M2 (.slice (some ⟨M1.size,0,none⟩) 1 1) [hello]:=⟨_,_,rfl,Nat.le_refl _,(fun e=>by cases e),fun i x hx=>by
  obtain rfl:i=0:=by
   cases i with
   |zero=>rfl
   |succ i=>cases hx
  cases hx
  exact⟨M1.size,0,false,_,rfl,by rw[hM2,Mem.get_push_new],rfl⟩⟩
 refine J0 (R3 @e1 @e5 @nw ?_)
 rw[←hM2]
 refine⟨by kernel_rfl,_,made_spec [115] (by decide) [hello] (by decide) (by intro t ht;simp at ht;subst ht;decide) M2 _ rd,?_⟩
 rintro VL M3 ⟨LA,hLA,hown,mo3⟩
 rw[hmade]at hLA
 obtain⟨x,rfl,hx⟩:∃x,LA=[x]∧x.1=A:=by
  match LA,hLA with
  | [x],h=>exact⟨x,rfl,by simpa using h⟩
 obtain⟨xa,xv⟩:=x
 obtain rfl:xa=A:=hx
 have hd3:DskAt M3 p q g (Q1 20):=(hd1.same fun b x hb=>by rw[hM2,Mem.get_push_old (Mem.get_lt hb)];exact hb).same mo3.get
 have hs3:=mo3.size
 rcases hown.1 with⟨h0,_⟩|⟨_,gA,hgA,rfl,gA3⟩
 ·cases h0
 have hbs:=hown.2 _ (List.mem_singleton.2 rfl)
 simp only at hbs
 rcases hbs with⟨h0,_⟩|⟨_,gB,hgB,rfl,gB3⟩
 ·rw[h0]at hbl;cases hbl
 rw[hbl]
 have gA3':M3.get gA=some (.cells false 8 (QA xa.head (.slice (some ⟨gB,0,none⟩) 1 1))):=by
  rw[gA3]
  simp only[List.flatMap_cons,List.flatMap_nil,List.append_nil]
  unfold arcV
  rw[hbl]
 have rowA:∀s,Jp 7 0 (some (.cells false s (QA xa.head (.slice (some ⟨gB,0,none⟩) 1 1))))=some (.agg xa.head.cells.toArray):=fun _=>rfl
 have k7A:∀s,cellIn 7 (some (.cells false s (QA xa.head (.slice (some ⟨gB,0,none⟩) 1 1))))=some (.slice (some ⟨gB,0,none⟩) 1 1):=fun _=>rfl
 have cB:cellIn 0 (some (.cells false 1 (xa.blocks.flatMap encS)))=some (.string (str b0)):=by
  show(xa.blocks.flatMap fun s=>[Value.string (str s)])[0]?=_
  rw[Zh,List.getElem?_map,hb0];rfl
 have lA:=Mem.get_lt gA3
 have lB:=Mem.get_lt gB3
 refine S1 @qi.{0} ?_
 refine J0 (J0 (R2 @q0 @hdp ?_))
 refine CF (J4 ?_)
 refine S0 ?_
 refine J0 (R2 @e1 @hdp ?_)
 have os:=open_spec M3 p q g (Q1 20) hd3 (str [115]) (by decide)
 rw[show(str [115]).data.toList=([115]:List UInt8)from rfl,←hkey,open_new 20 (by decide) (by decide) key,hdp]at os
 refine⟨by kernel_rfl,_,os,?_⟩
 rintro _ M4 ⟨v,rfl,hopen,ho4,hs4⟩
 obtain⟨P,rfl,hP,hat4⟩:=hopen
 have hat4:DepAt M4 P p q g (Jj 20) (U3 key 1 0):=hat4
 have gA4:=ho4 gA _ (by simp;omega) gA3'
 have gB4:=ho4 gB _ (by simp;omega) gB3
 have eep:((some (U3 key 1 0):Option Dep).map Dep.epoch).getD 0=1:=rfl
 have sep:=depoch_spec P p q g (Jj 20) (some (U3 key 1 0)) _ M4 ⟨rfl,hat4⟩
 rw[eep]at sep
 refine S0 ?_
 refine J0 (J0 (R1 @q0 ?_))
 refine K1 @q1 (sep) ?_
 refine⟨by kernel_rfl,_,kept_spec P p q g (Jj 20) (U3 key 1 0) M4 hat4,?_⟩
 rintro K M5 ⟨hK,mo5⟩
 rw[kept_d0]at hK
 obtain⟨aK,cK,rfl⟩:=hdrs_len hK
 refine S2 @List.length_nil.{0} @q4 ?_
 refine CF (J4 ?_)
 have hat5:=hat4.same mo5.get
 have gA5:=mo5.get _ _ gA4
 have gB5:=mo5.get _ _ gB4
 have z0:(0:Int)≤0:=by omega
 have z1:(0:Int)<((1:Nat):Int):=by omega
 have z1':(0:Int)<1:=by omega
 have z2:(0:Int).toNat=0:=rfl
 have bs:=Ke P p q g (Jj 20) (U3 key 1 0) xa.head M5 hat5 hkl (by simp[Jj])
 rw[w1]at bs
 refine S0 ?_
 refine J0 (R8 @z0 @z1 @z1' @z2 @and_self @Nat.zero_mul @gA5 @rowA ?_)
 refine⟨by kernel_rfl,_,bs,?_⟩
 rintro _ M6 ⟨rfl,hat6,ho6,hs6⟩
 have gA6:=ho6 gA _ (by simp;have:=mo5.size;omega) gA5
 have gB6:=ho6 gB _ (by simp;have:=mo5.size;omega) gB5
 have ss:=stage_spec P p q g d1 (Z2 key xa 1 0 G) 1 0 b0 (by omega) ⟨by show(-1000000:Int)≤0;decide,by show(0:Int)≤1000000000;decide⟩ M6 hat6
 rw[w2]at ss
 refine S0 ?_
 refine J0 (J1 ?_)
 simp only[zZ,reduceIte,yQ,yW,yX,yZ,yJ,yK,yV,zDk,Jc,Jd,Ja,J9,XX,z0,z1,z1',z2,and_self,Nat.zero_mul,gA6,k7A,gB6,cB]
 refine⟨by kernel_rfl,_,ss,?_⟩
 rintro _ M7 ⟨rfl,hat7,ho7,hs7⟩
 have cs:=commit_spec P p q g d2 (Z2 key xa 1 1 [true]) 1 M7 hat7
 rw[w3]at cs
 refine S0 ?_
 refine J0 (R0 ?_)
 refine⟨by kernel_rfl,_,cs,?_⟩
 rintro _ M8 ⟨rfl,hat8,ho8,hs8⟩
 refine S0 ?_
 refine J0 (R1 @q2 ?_)
 refine⟨by kernel_rfl,_,kept_spec P p q g d3 (Dp2 key xa 1 1) M8 hat8,?_⟩
 rintro K M9 ⟨hK,mo9⟩
 rw[kept_d2]at hK
 obtain⟨aK,cK,rfl⟩:=hdrs_len hK
 refine S2 @qi.{0} @q3 ?_
 refine T0 ?_
 have old:∀b x,M.get b=some x→M9.get b=some x:=fun b x hb=>by
  have l:=Mem.get_lt hb
  have a1:=ho1 b x (by simp) hb
  have a2:M2.get b=some x:=by rw[hM2,Mem.get_push_old (by omega)];exact a1
  have a3:=mo3.get b x a2
  have a4:=ho4 b x (by simp;omega) a3
  have a5:=mo5.get b x a4
  have a6:=ho6 b x (by simp;omega) a5
  have a7:=ho7 b x (by simp;omega) a6
  exact mo9.get b x (ho8 b x (by simp;omega) a7)
 first|exact⟨_,Thin.refl _,rfl,old,by have:=mo5.size;have:=mo9.size;omega⟩|exact⟨_,Thin.refl _,old,by have:=mo5.size;have:=mo9.size;omega⟩
theorem depot_forged(sec:List UInt8)(hsec:sec.length≤4000000000000000000)(T:List (List UInt8))(hT:T.length≤4000000000000000000)(hTs:∀t∈T,t.length≤4000000000000000000)(h:Header)(M:Mem)(v:Value)(hrd:StrsRd M v T):
 Abs.Spec qc 4 [.string (str sec),v,.agg h.cells.toArray] M fun u _=>u=.bool true:=by
 obtain⟨S,hS⟩:∃S,S=sec.take 100:=⟨_,rfl⟩
 have hSl:S.length≤100:=by rw[hS,List.length_take];omega
 obtain⟨key,hkey⟩:∃key,key=Sha.headKey S:=⟨_,rfl⟩
 have hkl:key.length≤1000000:=by rw[hkey,ZK];decide
 have hlp:∀b,ptr b=.pointer (some ⟨b,0,none⟩):=fun _=>rfl
 have bx:QG qc 33 (.agg h.cells.toArray)=some (.cells false (J6 qc 33) h.cells):=Ka _ rfl
 have halH:Q9 qc 33=some (.cells false (J6 qc 33) noHead.cells):=al_Hdr
 generalize J6 qc 33=s1 at bx halH
 have row7:∀x:Header,Jp 7 0 (some (.cells false s1 x.cells))=some (.agg x.cells.toArray):=fun _=>rfl
 have k1:cellIn 1 (some (.cells false s1 h.cells))=some (.string h.salt):=rfl
 have k4:cellIn 4 (some (.cells false s1 h.cells))=some (.int .i64 h.raw):=rfl
 have k5:cellIn 5 (some (.cells false s1 h.cells))=some (.string h.root):=rfl
 have k6:cellIn 6 (some (.cells false s1 h.cells))=some (.string h.tag):=rfl
 have agg7:∀x:Header,(Value.agg x.cells.toArray).cells.toList=x.cells:=fun _=>rfl
 have put7:∀(M0:Mem)(b:Nat)(x y:Header),Jg 7 M0 b 0 y.cells (some (.cells false s1 x.cells))=some (M0.set b (some (.cells false s1 y.cells))):=fun _ _ _ _=>rfl
 have j1:∀s d p e q L,cellIn 1 (some (.cells false s (Qt d p e q S L)))=some p:=fun _ _ _ _ _ _=>rfl
 have j3:∀s d p e q L,cellIn 3 (some (.cells false s (Qt d p e q S L)))=some q:=fun _ _ _ _ _ _=>rfl
 have r1:∀s e ep VO VK,cellIn 1 (some (.cells false s (XH e key ep VO VK)))=some (.string (str key)):=fun _ _ _ _ _=>rfl
 have q0:((0:Int) !=0)=false:=rfl
 have q1:((0:Int)==0)=true:=rfl
 have q13:((13:Int) !=0)=true:=rfl
 have q13':((13:Int)==13)=true:=rfl
 have q9:(((0:Nat):Int)==0)=true:=rfl
 have q8:(((1:Nat):Int)==1)=true:=rfl
 refine WM Tryz.func4 Tryz.results4 Tryz.ntmps4 fun _=>?_
 obtain⟨b5,hb5⟩:∃b,b=M.size:=⟨_,rfl⟩
 obtain⟨M1,hM1⟩:∃M1,M1=M.push (.cells false s1 h.cells):=⟨_,rfl⟩
 have g1:M1.get b5=some (.cells false s1 h.cells):=by rw[hM1,hb5,Mem.get_push_new]
 have mo1:More M M1:=by rw[hM1];exact More.push _ _
 refine J0 (R1 @bx ?_)
 rw[←hM1,←hb5]
 refine J0 (R0 ?_)
 refine⟨by kernel_rfl,_,built_spec 40 (by decide) (by decide) sec hsec T hT hTs M1 v (hrd.same mo1.get),?_⟩
 rintro _ M2 ⟨H,p,q,g,P,VL,LA,Mk,rfl,hat,hLA,hown,o1,o2,zk,zH,zp,zq,zg,zP,z2⟩
 rw[←hS]at hat
 have g2:=o2 _ _ (o1 _ _ g1)
 have lk:=Mem.get_lt (o1 _ _ g1)
 refine S1 @hlp ?_
 refine J0 (J0 (R1 @hp_eql ?_))
 refine CF (J4 ?_)
 refine S0 ?_
 refine J0 (J0 (J1 ?_))
 cases a1:decide ((Js h.salt:Int)>100)
 case true=>
  refine S5 @g2 @k1 @k5 @k6 @a1 ?_
  refine CT (J0 (R0 ?_))
  refine⟨by kernel_rfl,_,XD _,?_⟩
  rintro _ M3 ⟨rfl,_⟩
  refine S0 ?_
  refine T0 ?_
  first|exact⟨_,Thin.refl _,rfl⟩|exact⟨_,Thin.refl _⟩|exact⟨_,Thin.refl _,rfl,rfl⟩
 cases a2:decide ((Js h.root:Int)>100)
 case true=>
  refine S6 @g2 @k1 @k5 @k6 @a1 @a2 ?_
  refine CT (J0 (R0 ?_))
  refine⟨by kernel_rfl,_,XD _,?_⟩
  rintro _ M3 ⟨rfl,_⟩
  refine S0 ?_
  refine T0 ?_
  first|exact⟨_,Thin.refl _,rfl⟩|exact⟨_,Thin.refl _⟩|exact⟨_,Thin.refl _,rfl,rfl⟩
 cases a3:decide ((Js h.tag:Int)>100)
 case true=>
  refine S7 @g2 @k1 @k5 @k6 @a1 @a2 @a3 ?_
  refine CT (J0 (R0 ?_))
  refine⟨by kernel_rfl,_,XD _,?_⟩
  rintro _ M3 ⟨rfl,_⟩
  refine S0 ?_
  refine T0 ?_
  first|exact⟨_,Thin.refl _,rfl⟩|exact⟨_,Thin.refl _⟩|exact⟨_,Thin.refl _,rfl,rfl⟩
 refine S7 @g2 @k1 @k5 @k6 @a1 @a2 @a3 ?_
 refine CF (J4 ?_)
 obtain⟨s,e,Q,hH,s3,VO,VK,hQ,hQH,hQn⟩:=hat.row
 rw[←hkey]at hQ
 have hdep:=hat.dep
 rw[←hkey]at hdep
 have hne:=hat.ne
 have lH:=Mem.get_lt hH
 have bs:=Ke P p q g (Jj 40) (U3 key 1 0) h M2 hdep hkl (by simp[Jj])
 have rv:=fun m=>rverify_at key hkl h m
 have hlp2:∀b,Value.pointer (some ⟨b,0,none⟩)=ptr b:=fun _=>rfl
 refine S0 ?_
 refine J0 (D5 5 @hH @j1 @g2 @row7 @hlp ?_)
 by_cases hv:h.verify key=0
 ·rw[hv]at rv
  rcases forged_yes hv with hb|⟨d',G,hb,hd',hl40⟩
  ·
   rw[hb]at bs
   refine⟨by kernel_rfl,_,bs,?_⟩
   rintro _ M3 ⟨rfl,hat3,ho3,hs3⟩
   have hH3:=ho3 H _ (by simpa using hne) hH
   have hQ3:=ho3 Q _ (by simpa using hQn) hQ
   have g3:=ho3 b5 _ (by simp;omega) g2
   refine S0 ?_
   refine J0 (D7 8 @hH3 @j3 @hlp @hQ3 @r1 @g3 @row7 ?_)
   refine K0 (rv M3) ?_
   refine J0 (J0 (R1 @q0 ?_))
   refine CF (J4 ?_)
   refine S0 ?_
   refine J0 (J0 (R1 @q13 ?_))
   refine CT (J0 (R1 @q13' ?_))
   refine⟨by kernel_rfl,_,XD _,?_⟩
   rintro _ M4 ⟨rfl,_⟩
   refine S0 ?_
   refine T0 ?_
   first|exact⟨_,Thin.refl _,rfl⟩|exact⟨_,Thin.refl _⟩|exact⟨_,Thin.refl _,rfl,rfl⟩
  ·rw[hb]at bs
   refine⟨by kernel_rfl,_,bs,?_⟩
   rintro _ M3 ⟨rfl,hat3,ho3,hs3⟩
   have hH3:=ho3 H _ (by simpa using hne) hH
   have hQ3:=ho3 Q _ (by simpa using hQn) hQ
   have g3:=ho3 b5 _ (by simp;omega) g2
   obtain⟨D',hD'⟩:∃D',D'=Z2 key ⟨h,[]⟩ 1 0 G:=⟨_,rfl⟩
   have hat3:DepAt M3 P p q g d' D':=by rw[hD'];exact hat3
   obtain⟨G1,hG1⟩:∃G1:Header,G1={ h with raw:=bits .xor .i64 h.raw 1 }:=⟨_,rfl⟩
   have hGid:G1.id=h.id:=by rw[hG1]
   have hGne:h≠G1:=fun e=>xor_one h.raw (by
    have:=congrArg Header.raw e
    rw[hG1]at this
    exact this.symm)
   obtain⟨ec,hec,hgo⟩:=forged_other (key:=key) (G:=G) hd' hGid hGne
   rw[←hD']at hgo
   have hag:=forged_again (G:=G) hd' hv
   rw[←hD']at hag
   have qec:(ec !=0)=true:=by simpa using hec
   have put4:∀(M0:Mem)(b:Nat)(x:Int),Jg 1 M0 b 4 [.int .i64 x] (some (.cells false s1 h.cells))=some (M0.set b (some (.cells false s1 ({ h with raw:=x }:Header).cells))):=fun _ _ _=>rfl
   have aggI:∀x,(Value.int .i64 x).cells.toList=[.int .i64 x]:=fun _=>rfl
   obtain⟨b6,hb6⟩:∃b,b=M3.size:=⟨_,rfl⟩
   obtain⟨M4,hM4⟩:∃M4,M4=(M3.push (.cells false s1 noHead.cells)).set M3.size (some (.cells false s1 h.cells)):=⟨_,rfl⟩
   have g64:M4.get b6=some (.cells false s1 h.cells):=by rw[hM4,hb6];exact Mem.get_set_same (Mem.get_push_new _ _) _
   have o34:∀b x,M3.get b=some x→M4.get b=some x:=fun b x hx=>by
    have:=Mem.get_lt hx
    rw[hM4,Mem.get_set_ne (by omega),Mem.get_push_old this];exact hx
   obtain⟨M5,hM5⟩:∃M5,M5=M4.set b6 (some (.cells false s1 G1.cells)):=⟨_,rfl⟩
   have g65:M5.get b6=some (.cells false s1 G1.cells):=by rw[hM5];exact Mem.get_set_same g64 _
   have o35:∀b x,M3.get b=some x→M5.get b=some x:=fun b x hx=>by
    have:=Mem.get_lt hx
    rw[hM5,Mem.get_set_ne (by omega)];exact o34 b x hx
   have hat5:=hat3.same o35
   have hH5:=o35 _ _ hH3
   have hg5:=o35 _ _ g3
   have g34:=o34 _ _ g3
   have l3:=Mem.get_lt g3
   have d13:13≤d'.old.length:=by rw[hl40];decide
   obtain⟨_,_,_,gP,_⟩:=hat3.row
   obtain⟨_,gp⟩:=hat3.dsk.row
   have lP:=Mem.get_lt gP
   have lp:=Mem.get_lt gp
   have lq:=Mem.get_lt hat3.dsk.kv
   have lg:=Mem.get_lt hat3.dsk.old
   have ba:=Ke P p q g d' D' h M5 hat5 (by rw[hD'];exact hkl) d13
   rw[hag]at ba
   refine S0 ?_
   refine J0 (D7 8 @hH3 @j3 @hlp @hQ3 @r1 @g3 @row7 ?_)
   refine K0 (rv M3) ?_
   refine J0 (J0 (R1 @q0 ?_))
   refine CF (J4 ?_)
   refine S0 ?_
   refine J0 (J0 (R1 @q0 ?_))
   refine CF (J4 ?_)
   refine S0 ?_
   refine J0 (R6 @g3 @row7 @halH @Mem.get_push_new @agg7 @put7 ?_)
   rw[←hM4,←hb6]
   refine J0 (R5 @g34 @k4 @g64 @aggI @put4 ?_)
   rw[←hG1,←hM5]
   refine J0 (CW_drawnG hmix [(5,6),(13,29)] (by kernel_rfl) ?_)
   simp only[zZ,reduceIte,yQ,yW,yX,yZ,yJ,yK,yV,zDk,Jc,Jd,Ja,J9,XX,XE,JI,Q8,Qu,isVal,sGuardedV,JG,JU,yY,qd,hH5,j1,hlp,hg5,row7]
   refine⟨by kernel_rfl,_,ba,?_⟩
   rintro _ M6 ⟨rfl,hat6,ho6,hs6⟩
   have hH6:=ho6 H _ (by simpa using hne) hH5
   have g66:=ho6 b6 _ (by simp;omega) g65
   have bo:=Ke P p q g d' D' G1 M6 hat6 (by rw[hD'];exact hkl) d13
   rw[hgo]at bo
   simp only[zZ,reduceIte,yQ,yW,yX,yZ,yJ,yK,yV,zDk,Jc,Jd,Ja,J9,XX,XE,JI,Q8,Qu,isVal,sGuardedV,JG,JU,yY,qd,q1,hH6,j1,hlp,g66,row7]
   refine⟨by kernel_rfl,_,bo,?_⟩
   rintro _ M7 ⟨rfl,hat7,ho7,hs7⟩
   have hH7:=ho7 H _ (by simpa using hne) hH6
   simp only[zZ,reduceIte,yQ,yW,yX,yZ,yJ,yK,yV,zDk,Jc,Jd,Ja,J9,XX,XE,JI,Q8,Qu,isVal,sGuardedV,JG,JU,yY,qd,qec,hH7,j1,hlp]
   refine⟨by kernel_rfl,_,under_spec P p q g d' D' M7 hat7,?_⟩
   rintro K M8 ⟨hK,mo8⟩
   rw[show D'.underL=[h] by rw[hD'];rfl]at hK
   obtain⟨aK,cK,rfl⟩:=hdrs_len hK
   simp only[zZ,reduceIte,yQ,yW,yX,yZ,yJ,yK,yV,zDk,Jc,Jd,Ja,J9,XX,XE,JI,Q8,Qu,isVal,sGuardedV,JG,JU,yY,qd,qi,q8]
   refine⟨by kernel_rfl,_,XD _,?_⟩
   rintro _ M9 ⟨rfl,_⟩
   refine S0 ?_
   refine T0 ?_
   first|exact⟨_,Thin.refl _,rfl⟩|exact⟨_,Thin.refl _⟩|exact⟨_,Thin.refl _,rfl,rfl⟩
 ·
  have hno:Dep.begin (Jj 40) (U3 key 1 0) h=(Jj 40,U3 key 1 0,h.verify key):=forged_no (d:=Jj 40) (D:=U3 key 1 0) rfl rfl hv
  rw[hno]at bs
  have qv:(h.verify key !=0)=true:=by simpa using hv
  have qs:(h.verify key==h.verify key)=true:=by simp
  refine⟨by kernel_rfl,_,bs,?_⟩
  rintro _ M3 ⟨rfl,hat3,ho3,hs3⟩
  have hH3:=ho3 H _ (by simpa using hne) hH
  have hQ3:=ho3 Q _ (by simpa using hQn) hQ
  have g3:=ho3 b5 _ (by simp;omega) g2
  refine S0 ?_
  refine J0 (D7 8 @hH3 @j3 @hlp @hQ3 @r1 @g3 @row7 ?_)
  refine K0 (rv M3) ?_
  refine J0 (J0 (R1 @qv ?_))
  refine CT (J0 (R4 @qs @hH3 @j1 @hlp ?_))
  refine⟨by kernel_rfl,_,under_spec P p q g _ _ M3 hat3,?_⟩
  rintro K M4 ⟨hK,mo4⟩
  rw[under_d0h]at hK
  obtain⟨aK,cK,rfl⟩:=hdrs_len hK
  refine S2 @List.length_nil.{0} @q9 ?_
  refine⟨by kernel_rfl,_,XD _,?_⟩
  rintro _ M5 ⟨rfl,_⟩
  refine S0 ?_
  refine T0 ?_
  first|exact⟨_,Thin.refl _,rfl⟩|exact⟨_,Thin.refl _⟩|exact⟨_,Thin.refl _,rfl,rfl⟩
theorem rep_header{m:Mem}{B:Nat}{cs:List Value}(h:ARep qc m B 33 cs):∃x:Header,cs=x.cells∧((Lit.int .i64 x.id).wf=true∧(Lit.int .i64 x.n).wf=true∧(Lit.int .i64 x.bytes).wf=true∧(Lit.int .i64 x.raw).wf=true):=by
 obtain⟨hl,hf⟩:=h.inv_struct Tryz.underlying33
 rw[cellsHeader]at hl
 match cs,hl with
 | [c0,c1,c2,c3,c4,c5,c6],_=>
 obtain⟨a0,r0,w0⟩:=(hf 0 _ rfl).inv_int qf
 obtain⟨a1,r1,w1⟩:=(hf 1 _ rfl).inv_string qh
 obtain⟨a2,r2,w2⟩:=(hf 2 _ rfl).inv_int qf
 obtain⟨a3,r3,w3⟩:=(hf 3 _ rfl).inv_int qf
 obtain⟨a4,r4,w4⟩:=(hf 4 _ rfl).inv_int qf
 obtain⟨a5,r5,w5⟩:=(hf 5 _ rfl).inv_string qh
 obtain⟨a6,r6,w6⟩:=(hf 6 _ rfl).inv_string qh
 simp[cellsInt,cellsStr]at r0 r1 r2 r3 r4 r5 r6
 exact⟨⟨a0,a1,a2,a3,a4,a5,a6⟩,by simp[Header.cells, *],w0,w2,w3,w4⟩
theorem arg_header{m:Mem}{B:Nat}{v:Value}(h:ArgOf qc m B 33 v):∃x:Header,v=.agg x.cells.toArray:=by
 obtain⟨cs,rfl,h2⟩:=arg_row Tryz.underlying33 h
 obtain⟨x,rfl,_⟩:=rep_header h2
 exact⟨x,rfl⟩
theorem arg_strs{m:Mem}{B:Nat}{v:Value}(h:ArgOf qc m B 31 v):∃T:List (List UInt8),StrsRd m v T∧T.length≤B∧∀t∈T,t.length≤B:=by
 obtain⟨v',xs,e1,h1,h2,h3⟩:=ARep.list encS (fun t=>t.length≤B) Tryz.underlying31 cellsStr (fun cs h=>by
  obtain⟨s,rfl,hs⟩:=h.inv_string qh
  exact⟨s.data.toList,by rw[show s=str s.data.toList from ba_ext rfl];rfl,hs⟩) (arg_list Tryz.underlying31 h)
 cases e1
 refine⟨xs,?_,h2.1,h3⟩
 obtain⟨a,c,rfl,h4,h5,h6,h7,h8⟩:=h1
 refine⟨a,c,rfl,h5,fun e=>?_,fun i x hx=>?_⟩
 ·subst e
  cases a with
  |none=>exact .inl (by rw[h7 rfl];rfl)
  |some p=>exact .inr (by simp)
 have hi:=(List.getElem?_eq_some_iff.1 hx).1
 cases a with
 |none=>have:=h7 rfl;omega
 |some p=>
  obtain⟨b,rfl,hb⟩:=h8 p rfl
  obtain⟨ro,hg⟩:=hb (by omega)
  refine⟨b,0,ro,_,rfl,hg,?_⟩
  show(xs.flatMap fun s=>[Value.string (str s)])[0+i]?=_
  rw[Zh,Nat.zero_add,List.getElem?_map,hx];rfl
end Go.Proofs.YteccmcpaheepcaaGreatDoor
