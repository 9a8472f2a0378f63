/-
  The walk of catalog.Take.
-/
import Derived.Test.YteccmcpaheepcaaGreatDoorPart13
import Derived.Test.YteccmcpaheepcaaGreatDoorPart10
import Derived.Test.YteccmcpaheepcaaGreatDoorPart09
import Derived.Test.YteccmcpaheepcaaGreatDoorPart08
import Derived.Test.YteccmcpaheepcaaGreatDoorPart03
set_option linter.unusedSimpArgs false
set_option linter.unusedVariables false
set_option linter.unusedSectionVars false
set_option linter.unnecessarySimpa false
set_option linter.defProp false
set_option maxRecDepth 100000
set_option maxHeartbeats 16000000
open Nat renaming reduceLT → yQ, reduceEqDiff → yK, reduceAdd → yV, reduceSub → yY, reduceMul → yU
open Int renaming reduceToNat → yW, reduceLE → yX, reduceEq → yZ, reduceLT → yJ
open Go.Proofs.Tryz renaming prog → qc
open List renaming replicate → qd, getElem?_eq_some_iff → qe, getElem?_eq_getElem → qf, getElem?_append_right → qi, getElem?_replicate → qj, set_append_right → qk, length_drop → qm, length_append → qn, getElem?_set_ne → qo, getElem?_set_self → qp, length_set → qq, getElem?_append_left → qr, length_take → qu, mem_of_getElem? → qw, mem_or_eq_of_mem_set → qy, length_filterMap_le → qz, not_mem_nil → qA, all_append → qC, mem_cons → qD
open Int renaming toNat_natCast → qh
open Bool renaming and_eq_true → qt, eq_iff_iff → qB
open Option renaming bind_some → qv
open Nat renaming le_refl → qx
namespace Go.Proofs.YteccmcpaheepcaaGreatDoor
open Go.RowKit Abs
theorem hdrT_02(s:ByteArray):(ZO s).2=0∨(ZO s).2=2:=by unfold ZO;split<;>simp
theorem htake_at2(s:ByteArray)(m:Mem):Abs.Spec qc 149 [.string s] m fun u M=>u=.tuple #[.agg (ZO s).1.cells.toArray,.int .i64 (ZO s).2]∧M=m:=htake_at s m
theorem prefix4(s p:List UInt8)(hp:p.length=4)(hs:4≤s.length):Lib.hasPrefix s p=decide (s.take 4=p):=by
 rw[←Lib.hasPrefix_of_take,hp,decide_eq_true hs,Bool.true_and]
 rw[qB]
 simp
def catTV(s:List UInt8):Value:=.tuple #[.agg (Xf s).1.cells.toArray,.int .i64 (Xf s).2]
theorem ctake_spec(s:List UInt8)(hs:s.length=256)(m:Mem):
 Abs.Spec qc 69 [.string (str s)] m fun u M=>u=catTV s∧More m M:=by
 refine VE Tryz.func69 Tryz.results69 Tryz.ntmps69 fun hc hx k=>?_
 have hal:Q0 qc 102=some (.cells false (J5 qc 102) noExt.cells):=al_Ext
 generalize J5 qc 102=s1 at hal
 have halH:Q0 qc 33=some (.cells false (J5 qc 33) noHead.cells):=al_Hdr
 generalize J5 qc 33=s2 at halH
 have hbd0:Qt qc 102 []=some (.agg noExt.cells.toArray):=by kernel_rfl
 have hbd:∀(h:Header)(b:Int),Qt qc 102 [(0,.agg h.cells.toArray),(1,.int .i64 b)]=some (.agg (Ext.mk h b).cells.toArray):=fun h b=>by kernel_rfl
 have row8:∀x:Ext,Jm 8 0 (some (.cells false s1 x.cells))=some (.agg x.cells.toArray):=fun _=>rfl
 have row7:∀h:Header,Jm 7 0 (some (.cells false s2 h.cells))=some (.agg h.cells.toArray):=fun _=>rfl
 have agg8:∀x:Ext,(Value.agg x.cells.toArray).cells.toList=x.cells:=fun _=>rfl
 have agg7:∀h:Header,(Value.agg h.cells.toArray).cells.toList=h.cells:=fun _=>rfl
 have put8:∀(M0:Mem)(b:Nat)(x y:Ext),Jk 8 M0 b 0 y.cells (some (.cells false s1 x.cells))=some (M0.set b (some (.cells false s1 y.cells))):=fun _ _ _ _=>rfl
 have put7:∀(M0:Mem)(b:Nat)(x y:Header),Jk 7 M0 b 0 y.cells (some (.cells false s2 x.cells))=some (M0.set b (some (.cells false s2 y.cells))):=fun _ _ _ _=>rfl
 have q00:((0:Int) !=0)=false:=rfl
 have q10:((1:Int) !=0)=true:=rfl
 have q20:((2:Int) !=0)=true:=rfl
 have hbs:Jy (str s)=256:=hs
 have ql:decide ((((256:Nat):Int))<104)=false:=rfl
 obtain⟨r,hr⟩:∃r,r=Xf s:=⟨_,rfl⟩
 have hv:catTV s=.tuple #[.agg r.1.cells.toArray,.int .i64 r.2]:=by rw[hr];rfl
 rw[hv]
 clear hv
 unfold Xf at hr
 obtain⟨M1,hM1⟩:∃M1,M1=m.push (.cells false s1 noExt.cells):=⟨_,rfl⟩
 obtain⟨b2,hb2⟩:∃b,b=m.size:=⟨_,rfl⟩
 have hs1:M1.size=m.size+1:=by rw[hM1,Mem.size_push]
 have g2:M1.get b2=some (.cells false s1 noExt.cells):=by rw[hM1,hb2,Mem.get_push_new]
 have mo1:More m M1:=by rw[hM1];exact More.push _ _
 have fin:∀(M:Mem)(x y:Ext),M.get b2=some (.cells false s1 y.cells)→More m M→(M.set b2 (some (.cells false s1 x.cells))).get b2=some (.cells false s1 x.cells)∧More m (M.set b2 (some (.cells false s1 x.cells))):=fun M x y hg hm=>
  ⟨Mem.get_set_same hg _,fun b z hb=>by
   have:=Mem.get_lt hb
   rw[Mem.get_set_ne (by omega)];exact hm.get b z hb,by rw[Mem.size_set];exact hm.size⟩
 refine J0 (R1 @hal ?_)
 rw[←hM1,←hb2]
 refine J0 (R0 ?_)
 refine K0 (cutPrefix_spec (str s) _ _) ?_
 refine J0 (Ja (J0 (R0 ?_)))
 refine⟨by kernel_rfl,_,U7 (str s) 0 (by decide) (by show s.length≤_;omega) _,?_⟩
 rintro _ M9 ⟨rfl,e9⟩;replace e9:=e9.symm;subst e9
 have h0':Lib.trimB (str s).data.toList 0=Qd s:=rfl
 rw[h0']
 refine S1 @beq_nilS ?_
 refine CC (decide (Qd s=[])) (fun h=>J0 (J1 ?_)) (fun h=>?_)
 ·rw[if_pos (of_decide_eq_true h)]at hr
  subst hr
  refine S4 @hbd0 @g2 @agg8 @put8 ?_
  obtain⟨gs,ms⟩:=fin M1 noExt noExt g2 mo1
  refine T3 @JU @gs @row8 ?_
  exact⟨_,Thin.refl _,ms⟩
 rw[if_neg (of_decide_eq_false h)]at hr
 have hpre:Lib.hasPrefix (str s).data.toList [83,76,67,49]=decide (s.take 4=markC):=prefix4 s markC rfl (by omega)
 have htr:Lib.trimB (str (s.drop 104)).data.toList 0=Qd (s.drop 104):=rfl
 have sl104:∀get,JS qc get 9 (.string (str s)) (some (.int .i64 104)) none=some (.string (str (s.drop 104))):=fun get=>Zh get s 104 (by omega)
 have hdl:(s.drop 104).length=152:=by rw[qm,hs]
 rw[hpre]
 cases hm:decide (s.take 4=markC)
 case false=>
  rw[if_pos (.inl (of_decide_eq_false hm))]at hr
  subst hr
  refine J0 (R0 ?_)
  refine CT (J0 (R4 @hbd0 @g2 @agg8 @put8 ?_))
  obtain⟨gs,ms⟩:=fin M1 noExt noExt g2 mo1
  refine T3 @JU @gs @row8 ?_
  exact⟨_,Thin.refl _,ms⟩
 have hm':=of_decide_eq_true hm
 have htp:Lib.trimPrefix (str s).data.toList [83,76,67,49]=s.drop 4:=by
  unfold Lib.trimPrefix
  rw[hpre,hm]
  rfl
 rw[htp]
 refine J0 (R3 @hbs @ql @sl104 ?_)
 refine⟨by kernel_rfl,_,U7 (str (s.drop 104)) 0 (by decide) (by show(s.drop 104).length≤_;omega) _,?_⟩
 rintro _ M9 ⟨rfl,e9⟩;replace e9:=e9.symm;subst e9
 rw[htr]
 refine S1 @beq_nilS ?_
 refine CC (!decide (Qd (s.drop 104)=[])) (fun h2=>J0 (J1 ?_)) (fun h2=>J6 ?_)
 ·rw[if_pos (.inr (of_decide_eq_false (by simpa using h2)))]at hr
  subst hr
  refine S4 @hbd0 @g2 @agg8 @put8 ?_
  obtain⟨gs,ms⟩:=fin M1 noExt noExt g2 mo1
  refine T3 @JU @gs @row8 ?_
  exact⟨_,Thin.refl _,ms⟩
 have h2':Qd (s.drop 104)=[]:=by simpa using h2
 rw[if_neg (by rintro(h3|h3);exact h3 hm';exact h3 h2')]at hr
 have d4l:(s.drop 4).length=252:=by rw[qm,hs]
 have sl98:∀get,JS qc get 9 (.string (str (s.drop 4))) none (some (.int .i64 98))=some (.string (str (Xh s 4 98))):=fun get=>ZJ get (str (s.drop 4)) 98 (by rw[str_size];omega)
 have sl98':∀get,JS qc get 9 (.string (str (s.drop 4))) (some (.int .i64 98)) none=some (.string (str (s.drop 102))):=fun get=>by
  have:=Zh get (s.drop 4) 98 (by omega)
  rw[List.drop_drop]at this
  exact this
 have d102l:(s.drop 102).length=154:=by rw[qm,hs]
 have tk:=fun m=>take_spec (str (s.drop 102)) 2 (by decide) (by decide) (by rw[str_size];omega) (by rw[str_size];omega) m
 have etk:Sha.num ((str (s.drop 102)).data.toList.take 2)=Sha.num (Xh s 102 2):=rfl
 have h02:=hdrT_02 (str (Xh s 4 98))
 have hT:=fun m=>htake_at2 (str (Xh s 4 98)) m
 obtain⟨H,hH⟩:∃H,H=(ZO (str (Xh s 4 98))).1:=⟨_,rfl⟩
 obtain⟨e,he⟩:∃e,e=(ZO (str (Xh s 4 98))).2:=⟨_,rfl⟩
 obtain⟨n,hn⟩:∃n:Int,n=(Sha.num (Xh s 102 2):Nat):=⟨_,rfl⟩
 rw[←hH,←he,←hn]at hr
 rw[←he]at h02
 simp only[←hH,←he]at hT
 simp only[etk,←hn]at tk
 simp only[zZ,reduceIte,yQ,yW,yX,yZ,yJ,yK,yV]
 refine J0 (R1 @sl98 ?_)
 refine K4 @halH @Mem.get_push_new @agg7 @put7 (hT _) ?_
 obtain⟨b6,hb6⟩:∃b,b=M1.size:=⟨_,rfl⟩
 obtain⟨M2,hM2⟩:∃M2,M2=(M1.push (.cells false s2 noHead.cells)).set M1.size (some (.cells false s2 H.cells)):=⟨_,rfl⟩
 rw[←hM2,←hb6]
 have g6:M2.get b6=some (.cells false s2 H.cells):=by rw[hM2,hb6];exact Mem.get_set_same (Mem.get_push_new _ _) _
 have mo2:More M1 M2:=⟨fun b x hb=>by
  have:=Mem.get_lt hb
  rw[hM2,Mem.get_set_ne (by omega),Mem.get_push_old this];exact hb,by rw[hM2,Mem.size_set,Mem.size_push];omega⟩
 refine J0 (R1 @sl98' ?_)
 refine K0 (tk _) ?_
 refine J0 (R7 @g6 @row7 @hbd @hal @Mem.get_push_new @agg8 @put8 ?_)
 obtain⟨b11,hb11⟩:∃b,b=M2.size:=⟨_,rfl⟩
 obtain⟨M3,hM3⟩:∃M3,M3=(M2.push (.cells false s1 noExt.cells)).set M2.size (some (.cells false s1 (Ext.mk H n).cells)):=⟨_,rfl⟩
 rw[←hM3,←hb11]
 have g11:M3.get b11=some (.cells false s1 (Ext.mk H n).cells):=by rw[hM3,hb11];exact Mem.get_set_same (Mem.get_push_new _ _) _
 have mo3:More M2 M3:=⟨fun b x hb=>by
  have:=Mem.get_lt hb
  rw[hM3,Mem.get_set_ne (by omega),Mem.get_push_old this];exact hb,by rw[hM3,Mem.size_set,Mem.size_push];omega⟩
 have g2':=mo3.get _ _ (mo2.get _ _ g2)
 have mo:=(mo1.trans mo2).trans mo3
 obtain⟨gs0,ms0⟩:=fin M3 noExt noExt g2' mo
 obtain⟨gs,ms⟩:=fin M3 (Ext.mk H n) noExt g2' mo
 refine J0 (J0 (J1 ?_))
 rcases h02 with h02|h02
 case inr=>
  rw[if_pos (.inl (by rw[h02];decide))]at hr
  rw[h02]
  subst hr
  refine S1 @q20 ?_
  refine CT (J0 (R4 @hbd0 @g2' @agg8 @put8 ?_))
  refine T3 @JU @gs0 @row8 ?_
  exact⟨_,Thin.refl _,ms0⟩
 rw[h02]at hr ⊢
 refine S3 @q00 @g11 @row8 ?_
 refine⟨by kernel_rfl,_,ccheck_at (Ext.mk H n) _,?_⟩
 rintro _ M9 ⟨rfl,e9⟩;replace e9:=e9.symm;subst e9
 by_cases hq:Jz (Ext.mk H n)=true
 ·have ec:(Ext.mk H n).checkI=0:=by unfold Ext.checkI;rw[if_pos hq]
  rw[if_neg (by rintro(h3|h3);exact h3 rfl;rw[hq]at h3;cases h3)]at hr
  subst hr
  rw[ec]
  refine S1 @q00 ?_
  refine CF (J6 ?_)
  simp only[zZ,reduceIte,yQ,yW,yX,yZ,yJ,yK,yV]
  refine J0 (R5 @g11 @row8 @g2' @agg8 @put8 ?_)
  refine T3 @JU @gs @row8 ?_
  exact⟨_,Thin.refl _,ms⟩
 ·have ec:(Ext.mk H n).checkI=1:=by unfold Ext.checkI;rw[if_neg hq]
  rw[if_pos (.inr (by simpa using hq))]at hr
  subst hr
  rw[ec]
  refine S1 @q10 ?_
  refine CT (J0 (R4 @hbd0 @g2' @agg8 @put8 ?_))
  refine T3 @JU @gs0 @row8 ?_
  exact⟨_,Thin.refl _,ms0⟩
theorem ctake_at(s:List UInt8)(hs:s.length=256)(m:Mem):
 Abs.Spec qc 69 [.string (str s)] m fun u M=>u=.tuple #[.agg (Xf s).1.cells.toArray,.int .i64 (Xf s).2]∧M=m:=
 Abs.Spec.of_empty (by intro x hx;simp at hx;subst hx;rfl) rfl ((ctake_spec s hs ⟨[]⟩).mono fun _ _ h=>h.1) m
theorem jblank_at(s:List UInt8)(hs:s.length≤1000000)(m:Mem):
 Abs.Spec qc 154 [.string (str s)] m fun u M=>u=.bool (decide (Qd s=[]))∧M=m:=by
 refine VE Tryz.func154 Tryz.results154 Tryz.ntmps154 fun hc hx k=>?_
 refine J0 (R0 ?_)
 refine J0 (R0 ?_)
 refine K1 @beq_nilS (U7 (str s) 0 (by decide) (by show s.length≤_;omega) _) ?_
 refine T0 ?_
 exact⟨_,Thin.refl _,rfl,rfl⟩
def Rec.may(r:Rec):Bool:=Jz r.x&&decide ((r.got.length:Int)=r.x.head.n)
def Rec.checkI(r:Rec):Int:=if r.may=true then 0 else 1
theorem rec_checkI_of(r:Rec):r.checkI=if decide (r.x.head.check≠0)||decide (r.x.base<0)||decide (r.x.base>1024-r.x.head.n)||((r.got.length:Int) !=r.x.head.n)then 1 else 0:=by
 unfold Rec.checkI Rec.may Jz Header.may
 by_cases h1:r.x.head.check=0<;>by_cases h2:r.x.base<0<;>by_cases h3:r.x.base>1024-r.x.head.n<;>by_cases h4:(r.got.length:Int)=r.x.head.n<;>simp[h1,h2,h3,h4]<;>omega
theorem jcheck_spec(r:Rec)(m:Mem):
 Abs.Spec qc 156 [.agg r.cells.toArray] m fun u M=>u=.int .i64 r.checkI∧More m M:=by
 refine VE Tryz.func156 Tryz.results156 Tryz.ntmps156 fun hc hx k=>?_
 have bx:QK qc 132 (.agg r.cells.toArray)=some (.cells false (J5 qc 132) r.cells):=bx_Rec _ rfl
 generalize J5 qc 132=s1 at bx
 have row:Jm 7 0 (some (.cells false s1 r.cells))=some (.agg r.x.head.cells.toArray):=rfl
 have rowS:Jm 5 8 (some (.cells false s1 r.cells))=some (QI r.got):=rfl
 have k7:cellIn 7 (some (.cells false s1 r.cells))=some (.int .i64 r.x.base):=rfl
 have k2:cellIn 2 (some (.cells false s1 r.cells))=some (.int .i64 r.x.head.n):=rfl
 have q00:((0:Int) !=0)=false:=rfl
 have q10:((1:Int) !=0)=true:=rfl
 obtain⟨M1,hM1⟩:∃M1,M1=m.push (.cells false s1 r.cells):=⟨_,rfl⟩
 have mo:More m M1:=by rw[hM1];exact More.push _ _
 have g1:M1.get m.size=some (.cells false s1 r.cells):=by rw[hM1,Mem.get_push_new]
 obtain⟨c,hr⟩:∃c,c=r.checkI:=⟨_,rfl⟩
 rw[←hr]
 rw[rec_checkI_of]at hr
 refine J0 (R1 @bx ?_)
 rw[←hM1]
 have e0:∀(a:Bool),a=true→decide (r.x.head.check≠0)=a→c=1:=fun a h1 h2=>by rw[hr,h2,h1];rfl
 rcases ZR r.x.head with e|e
 case inr=>
  refine J0 (J0 (D2 30 @g1 @row ?_))
  refine⟨by kernel_rfl,_,hcheck_at r.x.head _,?_⟩
  rw[e]at hr ⊢
  refine S2 @q10 @k7 ?_
  obtain rfl:c=1:=by rw[hr];rfl
  refine CT (J0 (R0 ?_))
  refine T0 ?_
  exact⟨_,Thin.refl _,mo⟩
 have hn:=Uc (r.x.head.check_zero.1 e)
 have w1:IntKind.i64.wrap (1024-r.x.head.n)=1024-r.x.head.n:=XJ (by omega) (by omega)
 refine J0 (J0 (D2 30 @g1 @row ?_))
 refine⟨by kernel_rfl,_,hcheck_at r.x.head _,?_⟩
 rw[e]at hr ⊢
 cases p1:decide (r.x.base<0)
 case true=>
  refine S4 @q00 @k7 @g1 @p1 ?_
  obtain rfl:c=1:=by rw[hr,p1];rfl
  refine CT (J0 (R0 ?_))
  refine T0 ?_
  exact⟨_,Thin.refl _,mo⟩
 cases p2:decide (r.x.base>1024-r.x.head.n)
 case true=>
  refine S7 @q00 @k7 @k2 @g1 @p1 @w1 @p2 ?_
  obtain rfl:c=1:=by rw[hr,p1,p2];rfl
  refine CT (J0 (R0 ?_))
  refine T0 ?_
  exact⟨_,Thin.refl _,mo⟩
 refine S8 @q00 @k7 @k2 @g1 @p1 @w1 @p2 @rowS ?_
 rw[p1,p2]at hr
 refine⟨by kernel_rfl,_,size_at r.got _,?_⟩
 refine S8 @q00 @k7 @k2 @g1 @p1 @w1 @p2 @rowS ?_
 refine CC ((r.got.length:Int) !=r.x.head.n) (fun h=>J0 (J1 ?_)) (fun h=>J6 ?_)
 ·obtain rfl:c=1:=by rw[hr,h];rfl
  refine S0 ?_
  refine T0 ?_
  exact⟨_,Thin.refl _,mo⟩
 ·obtain rfl:c=0:=by rw[hr,h];rfl
  simp only[zZ,reduceIte,yQ,yW,yX,yZ,yJ,yK,yV]
  refine J0 (R0 ?_)
  refine T0 ?_
  exact⟨_,Thin.refl _,mo⟩
theorem jcheck_at(r:Rec)(m:Mem):
 Abs.Spec qc 156 [.agg r.cells.toArray] m fun u M=>u=.int .i64 r.checkI∧M=m:=
 Abs.Spec.of_empty (by intro x hx;simp at hx;subst hx;rfl) rfl ((jcheck_spec r ⟨[]⟩).mono fun _ _ h=>h.1) m
def recT(r:Rec):ByteArray:=if r.may=true then str (QD r)else⟨#[]⟩
theorem jput_spec(r:Rec)(m:Mem):
 Abs.Spec qc 139 [.agg r.cells.toArray] m fun u M=>u=.tuple #[.string (recT r),.int .i64 r.checkI]∧More m M:=by
 refine VE Tryz.func139 Tryz.results139 Tryz.ntmps139 fun hc hx k=>?_
 have bx:QK qc 132 (.agg r.cells.toArray)=some (.cells false (J5 qc 132) r.cells):=bx_Rec _ rfl
 generalize J5 qc 132=s1 at bx
 have row13:Jm 13 0 (some (.cells false s1 r.cells))=some (.agg r.cells.toArray):=rfl
 have row:Jm 7 0 (some (.cells false s1 r.cells))=some (.agg r.x.head.cells.toArray):=rfl
 have rowS:Jm 5 8 (some (.cells false s1 r.cells))=some (QI r.got):=rfl
 have k7:cellIn 7 (some (.cells false s1 r.cells))=some (.int .i64 r.x.base):=rfl
 have q00:((0:Int) !=0)=false:=rfl
 have q10:((1:Int) !=0)=true:=rfl
 obtain⟨M1,hM1⟩:∃M1,M1=m.push (.cells false s1 r.cells):=⟨_,rfl⟩
 have mo:More m M1:=by rw[hM1];exact More.push _ _
 have g1:M1.get m.size=some (.cells false s1 r.cells):=by rw[hM1,Mem.get_push_new]
 obtain⟨c,hr⟩:∃c,c=recT r:=⟨_,rfl⟩
 rw[←hr]
 refine J0 (R1 @bx ?_)
 rw[←hM1]
 refine J0 (J0 (R2 @g1 @row13 ?_))
 refine K0 (jcheck_at r _) ?_
 unfold recT at hr
 by_cases hm:r.may=true
 ·have e:r.checkI=0:=by unfold Rec.checkI;rw[if_pos hm]
  rw[if_pos hm]at hr
  rw[e]
  have hmx:Jz r.x=true:=by unfold Rec.may at hm;rw[qt]at hm;exact hm.1
  have hok:=(UE hmx).1
  have e0:=r.x.head.check_zero.2 hok
  have ep:putT r.x.head=str (JP r.x.head):=by unfold putT;rw[if_pos e0]
  have hl:=UI hok
  have hcat:Jy (str markJ)+Jy (str (JP r.x.head))≤4611686018427387904:=by
   show 4+(JP r.x.head).length≤_
   omega
  have hcat3:Jy (str (markJ++JP r.x.head))+Jy (str (Sha.fixed r.x.base 2))≤4611686018427387904:=by
   show(markJ++JP r.x.head).length+(Sha.fixed r.x.base 2).length≤_
   rw[qn,Sha.fixed_length,hl]
   decide
  have hcat4:Jy (str (markJ++JP r.x.head++Sha.fixed r.x.base 2))+Jy (str (Uw r.got))≤4611686018427387904:=by
   show(markJ++JP r.x.head++Sha.fixed r.x.base 2).length+(Uw r.got).length≤_
   rw[qn,qn,Sha.fixed_length,hl,setText_len]
   decide
  refine J0 (R1 @q00 ?_)
  refine CF (J6 ?_)
  simp only[zZ,reduceIte,yQ,yW,yX,yZ,yJ,yK,yV]
  refine J0 (R2 @g1 @row ?_)
  refine K1 @ep (hput_at r.x.head _) ?_
  refine J0 (D0 10 ?_)
  refine⟨hcat,?_⟩
  refine S2 @g1 @k7 ?_
  refine⟨by kernel_rfl,_,UM r.x.base 2 (by omega) (by omega) _,?_⟩
  refine S0 ?_
  refine⟨hcat3,?_⟩
  refine S2 @g1 @rowS ?_
  refine⟨by kernel_rfl,_,sput_at r.got _,?_⟩
  refine S0 ?_
  refine⟨hcat4,?_⟩
  refine T0 ?_
  exact⟨_,Thin.refl _,by rw[hr];rfl,mo⟩
 ·have e:r.checkI=1:=by unfold Rec.checkI;rw[if_neg hm]
  rw[if_neg hm]at hr
  rw[e]
  refine J0 (R1 @q10 ?_)
  refine CT (J0 (R0 ?_))
  refine T0 ?_
  exact⟨_,Thin.refl _,by rw[hr],mo⟩
theorem jput_at(r:Rec)(m:Mem):
 Abs.Spec qc 139 [.agg r.cells.toArray] m fun u M=>u=.tuple #[.string (recT r),.int .i64 r.checkI]∧M=m:=
 Abs.Spec.of_empty (by intro x hx;simp at hx;subst hx;rfl) rfl ((jput_spec r ⟨[]⟩).mono fun _ _ h=>h.1) m
theorem setTake_02(n:Nat)(t:List UInt8):(QH n t).2=0∨(QH n t).2=2:=by unfold QH;split<;>simp
theorem setTake_len{n:Nat}{t:List UInt8}(h:(QH n t).2=0):(QH n t).1.length=n:=by
 unfold QH at h ⊢
 split at h
 ·exact absurd h (by decide)
 ·rename_i h2
  rw[if_neg h2];simp
theorem hdrT_ok{s:ByteArray}(h:(ZO s).2=0):(ZO s).1.okP:=by
 unfold ZO at h ⊢
 split at h
 ·rename_i h2
  rw[if_pos h2]
  exact(Z7 s).check_zero.1 ((ZR _).resolve_right h2.2.2)
 ·exact absurd h (by decide)
theorem cutL_len{s:List UInt8}{a n:Nat}(h:a+n≤s.length):(Xh s a n).length=n:=by
 unfold Xh
 rw[qu,qm]
 omega
def jouTV(s:List UInt8):Value:=.tuple #[.agg (QL s).1.cells.toArray,.int .i64 (QL s).2]
theorem jtake_spec(s:List UInt8)(hs:s.length=256)(m:Mem):
 Abs.Spec qc 71 [.string (str s)] m fun u M=>u=jouTV s∧More m M:=by
 refine VE Tryz.func71 Tryz.results71 Tryz.ntmps71 fun hc hx k=>?_
 have hal:Q0 qc 132=some (.cells false (J5 qc 132) noRec.cells):=al_Rec
 generalize J5 qc 132=s1 at hal
 have halH:Q0 qc 33=some (.cells false (J5 qc 33) noHead.cells):=al_Hdr
 generalize J5 qc 33=s2 at halH
 have halS:Q0 qc 57=some (.cells false (J5 qc 57) (setCells [])):=al_Set
 generalize J5 qc 57=s3 at halS
 have hbd0:Qt qc 132 []=some (.agg noRec.cells.toArray):=by kernel_rfl
 have hbdE:∀(h:Header)(b:Int),Qt qc 102 [(0,.agg h.cells.toArray),(1,.int .i64 b)]=some (.agg (Ext.mk h b).cells.toArray):=fun h b=>by kernel_rfl
 have hbd:∀(x:Ext)(l:List Bool),Qt qc 132 [(0,.agg x.cells.toArray),(1,QI l)]=some (.agg (Rec.mk x l).cells.toArray):=fun x l=>by kernel_rfl
 have row13:∀x:Rec,Jm 13 0 (some (.cells false s1 x.cells))=some (.agg x.cells.toArray):=fun _=>rfl
 have row7:∀h:Header,Jm 7 0 (some (.cells false s2 h.cells))=some (.agg h.cells.toArray):=fun _=>rfl
 have row5:∀l,Jm 5 0 (some (.cells false s3 (setCells l)))=some (QI l):=fun _=>rfl
 have k2:∀h:Header,cellIn 2 (some (.cells false s2 h.cells))=some (.int .i64 h.n):=fun _=>rfl
 have agg13:∀x:Rec,(Value.agg x.cells.toArray).cells.toList=x.cells:=fun _=>rfl
 have agg7:∀h:Header,(Value.agg h.cells.toArray).cells.toList=h.cells:=fun _=>rfl
 have agg5:∀l,(QI l).cells.toList=setCells l:=fun _=>rfl
 have put13:∀(M0:Mem)(b:Nat)(x y:Rec),Jk 13 M0 b 0 y.cells (some (.cells false s1 x.cells))=some (M0.set b (some (.cells false s1 y.cells))):=fun _ _ _ _=>rfl
 have put7:∀(M0:Mem)(b:Nat)(x y:Header),Jk 7 M0 b 0 y.cells (some (.cells false s2 x.cells))=some (M0.set b (some (.cells false s2 y.cells))):=fun _ _ _ _=>rfl
 have put5:∀(M0:Mem)(b:Nat)(x y:List Bool),Jk 5 M0 b 0 (setCells y) (some (.cells false s3 (setCells x)))=some (M0.set b (some (.cells false s3 (setCells y)))):=fun _ _ _ _=>rfl
 have q00:((0:Int) !=0)=false:=rfl
 have q10:((1:Int) !=0)=true:=rfl
 have q20:((2:Int) !=0)=true:=rfl
 have hbs:Jy (str s)=256:=hs
 have ql:decide ((((256:Nat):Int))<136)=false:=rfl
 obtain⟨r,hr⟩:∃r,r=QL s:=⟨_,rfl⟩
 have hv:jouTV s=.tuple #[.agg r.1.cells.toArray,.int .i64 r.2]:=by rw[hr];rfl
 rw[hv]
 clear hv
 unfold QL at hr
 obtain⟨M1,hM1⟩:∃M1,M1=m.push (.cells false s1 noRec.cells):=⟨_,rfl⟩
 obtain⟨b2,hb2⟩:∃b,b=m.size:=⟨_,rfl⟩
 have hs1:M1.size=m.size+1:=by rw[hM1,Mem.size_push]
 have g2:M1.get b2=some (.cells false s1 noRec.cells):=by rw[hM1,hb2,Mem.get_push_new]
 have mo1:More m M1:=by rw[hM1];exact More.push _ _
 have fin:∀(M:Mem)(x y:Rec),M.get b2=some (.cells false s1 y.cells)→More m M→(M.set b2 (some (.cells false s1 x.cells))).get b2=some (.cells false s1 x.cells)∧More m (M.set b2 (some (.cells false s1 x.cells))):=fun M x y hg hm=>
  ⟨Mem.get_set_same hg _,fun b z hb=>by
   have:=Mem.get_lt hb
   rw[Mem.get_set_ne (by omega)];exact hm.get b z hb,by rw[Mem.size_set];exact hm.size⟩
 refine J0 (R1 @hal ?_)
 rw[←hM1,←hb2]
 refine J0 (Ja (J0 (R0 ?_)))
 refine K0 (jblank_at s (by omega) _) ?_
 refine CC (decide (Qd s=[])) (fun h=>J0 (J1 ?_)) (fun h=>?_)
 ·rw[if_pos (of_decide_eq_true h)]at hr
  subst hr
  refine S4 @hbd0 @g2 @agg13 @put13 ?_
  obtain⟨gs,ms⟩:=fin M1 noRec noRec g2 mo1
  refine T3 @JU @gs @row13 ?_
  exact⟨_,Thin.refl _,ms⟩
 rw[if_neg (of_decide_eq_false h)]at hr
 have hpre:Lib.hasPrefix (str s).data.toList (ByteArray.mk #[83,76,74,49]).data.toList=decide (s.take 4=markJ):=prefix4 s markJ rfl (by omega)
 have sl136:∀get,JS qc get 9 (.string (str s)) (some (.int .i64 136)) none=some (.string (str (s.drop 136))):=fun get=>Zh get s 136 (by omega)
 have hdl:(s.drop 136).length=120:=by rw[qm,hs]
 have hPS:=fun m=>hasPrefix_spec (str s) (ByteArray.mk #[83,76,74,49]) m
 rw[hpre]at hPS
 refine J0 (R2 @hbs @ql ?_)
 refine⟨by kernel_rfl,_,hPS _,?_⟩
 rintro _ M9 ⟨rfl,e9⟩;replace e9:=e9.symm;subst e9
 cases hm:decide (s.take 4=markJ)
 case false=>
  rw[if_pos (.inl (of_decide_eq_false hm))]at hr
  subst hr
  refine S0 ?_
  refine CT (J0 (R4 @hbd0 @g2 @agg13 @put13 ?_))
  obtain⟨gs,ms⟩:=fin M1 noRec noRec g2 mo1
  refine T3 @JU @gs @row13 ?_
  exact⟨_,Thin.refl _,ms⟩
 have hm':=of_decide_eq_true hm
 refine S1 @sl136 ?_
 refine K0 (jblank_at (s.drop 136) (by omega) _) ?_
 refine CC (!decide (Qd (s.drop 136)=[])) (fun h2=>J0 (J1 ?_)) (fun h2=>J6 ?_)
 ·rw[if_pos (.inr (of_decide_eq_false (by simpa using h2)))]at hr
  subst hr
  refine S4 @hbd0 @g2 @agg13 @put13 ?_
  obtain⟨gs,ms⟩:=fin M1 noRec noRec g2 mo1
  refine T3 @JU @gs @row13 ?_
  exact⟨_,Thin.refl _,ms⟩
 have h2':Qd (s.drop 136)=[]:=by simpa using h2
 rw[if_neg (by rintro(h3|h3);exact h3 hm';exact h3 h2')]at hr
 have d4l:(s.drop 4).length=252:=by rw[qm,hs]
 have sl4:∀get,JS qc get 9 (.string (str s)) (some (.int .i64 4)) none=some (.string (str (s.drop 4))):=fun get=>Zh get s 4 (by omega)
 have sl98:∀get,JS qc get 9 (.string (str (s.drop 4))) none (some (.int .i64 98))=some (.string (str (Xh s 4 98))):=fun get=>ZJ get (str (s.drop 4)) 98 (by rw[str_size];omega)
 have sl98':∀get,JS qc get 9 (.string (str (s.drop 4))) (some (.int .i64 98)) none=some (.string (str (s.drop 102))):=fun get=>by
  have:=Zh get (s.drop 4) 98 (by omega)
  rw[List.drop_drop]at this
  exact this
 have d102l:(s.drop 102).length=154:=by rw[qm,hs]
 have d104l:(s.drop 104).length=152:=by rw[qm,hs]
 have sl32:∀get,JS qc get 9 (.string (str (s.drop 104))) none (some (.int .i64 32))=some (.string (str (Xh s 104 32))):=fun get=>ZJ get (str (s.drop 104)) 32 (by rw[str_size];omega)
 have tk:=fun m=>take_spec (str (s.drop 102)) 2 (by decide) (by decide) (by rw[str_size];omega) (by rw[str_size];omega) m
 have etk:Sha.num ((str (s.drop 102)).data.toList.take 2)=Sha.num (Xh s 102 2):=rfl
 have etd:(str (s.drop 102)).data.toList.drop 2=s.drop 104:=by show(s.drop 102).drop 2=_;rw[List.drop_drop]
 have h02:=hdrT_02 (str (Xh s 4 98))
 have hok0:=fun h=>hdrT_ok (s:=str (Xh s 4 98)) h
 have hT:=fun m=>htake_at2 (str (Xh s 4 98)) m
 have l32:(Xh s 104 32).length=32:=cutL_len (by omega)
 obtain⟨H,hH⟩:∃H,H=(ZO (str (Xh s 4 98))).1:=⟨_,rfl⟩
 obtain⟨e,he⟩:∃e,e=(ZO (str (Xh s 4 98))).2:=⟨_,rfl⟩
 obtain⟨n,hn⟩:∃n:Int,n=(Sha.num (Xh s 102 2):Nat):=⟨_,rfl⟩
 obtain⟨t,ht⟩:∃t,t=Xh s 104 32:=⟨_,rfl⟩
 rw[←hH,←he,←hn,←ht]at hr
 rw[←he]at h02
 rw[←hH,←he]at hok0
 rw[←ht]at l32
 simp only[←hH,←he]at hT
 simp only[etk,etd,←hn]at tk
 simp only[←ht]at sl32
 simp only[zZ,reduceIte,yQ,yW,yX,yZ,yJ,yK,yV]
 refine J0 (R1 @sl4 ?_)
 refine J0 (R1 @sl98 ?_)
 refine K4 @halH @Mem.get_push_new @agg7 @put7 (hT _) ?_
 obtain⟨b6,hb6⟩:∃b,b=M1.size:=⟨_,rfl⟩
 obtain⟨M2,hM2⟩:∃M2,M2=(M1.push (.cells false s2 noHead.cells)).set M1.size (some (.cells false s2 H.cells)):=⟨_,rfl⟩
 rw[←hM2,←hb6]
 have g6:M2.get b6=some (.cells false s2 H.cells):=by rw[hM2,hb6];exact Mem.get_set_same (Mem.get_push_new _ _) _
 have mo2:More M1 M2:=⟨fun b x hb=>by
  have:=Mem.get_lt hb
  rw[hM2,Mem.get_set_ne (by omega),Mem.get_push_old this];exact hb,by rw[hM2,Mem.size_set,Mem.size_push];omega⟩
 have g22:=mo2.get _ _ g2
 have m12:=mo1.trans mo2
 rcases h02 with h02|h02
 case inr=>
  rw[if_pos (.inl (by rw[h02];decide))]at hr
  rw[h02]
  subst hr
  obtain⟨gs0,ms0⟩:=fin M2 noRec noRec g22 m12
  refine J0 (J0 (R1 @q20 ?_))
  refine CT (J0 (R4 @hbd0 @g22 @agg13 @put13 ?_))
  refine T3 @JU @gs0 @row13 ?_
  exact⟨_,Thin.refl _,ms0⟩
 have hok:=hok0 h02
 have hn2:=Uc hok
 obtain⟨q,hq⟩:∃q:Nat,H.n=(q:Int):=⟨H.n.toNat,by omega⟩
 have hst:=fun m=>stake_at q (by omega) t l32 m
 have s02:=setTake_02 q t
 have slen:=fun h=>setTake_len (n:=q) (t:=t) h
 rw[h02,hq,qh]at hr
 obtain⟨L,hL⟩:∃L,L=(QH q t).1:=⟨_,rfl⟩
 obtain⟨e2,he2⟩:∃e,e=(QH q t).2:=⟨_,rfl⟩
 rw[←hL,←he2]at hr
 rw[←he2]at s02
 rw[←he2,←hL]at slen
 simp only[←hL,←he2]at hst
 rw[h02]
 refine J0 (J0 (R1 @q00 ?_))
 refine CF (J6 ?_)
 simp only[zZ,reduceIte,yQ,yW,yX,yZ,yJ,yK,yV]
 refine J0 (R1 @sl98' ?_)
 refine K0 (tk _) ?_
 refine J0 (CW_draw4 hmix 9 [7] (by kernel_rfl) ?_)
 simp only[sQB,Z6,List.getElem?_cons_succ,List.getElem?_cons_zero,qv,zZ,reduceIte,yQ,yW,yX,yZ,yJ,yK,yV,zDk,Jc,Jd,J9,J8,g6,k2,hq,sl32]
 refine⟨by kernel_rfl,_,hst _,?_⟩
 simp only[sQB,Z6,List.getElem?_cons_succ,List.getElem?_cons_zero,qv,zZ,reduceIte,yQ,yW,yX,yZ,yJ,yK,yV,zDk,Jc,Jd,J9,J8,halS,Mem.get_push_new,agg5,put5]
 refine⟨⟨_,rfl,rfl⟩,?_⟩
 obtain⟨b9,hb9⟩:∃b,b=M2.size:=⟨_,rfl⟩
 obtain⟨M3,hM3⟩:∃M3,M3=(M2.push (.cells false s3 (setCells []))).set M2.size (some (.cells false s3 (setCells L))):=⟨_,rfl⟩
 rw[←hM3,←hb9]
 have g9:M3.get b9=some (.cells false s3 (setCells L)):=by rw[hM3,hb9];exact Mem.get_set_same (Mem.get_push_new _ _) _
 have mo3:More M2 M3:=⟨fun b x hb=>by
  have:=Mem.get_lt hb
  rw[hM3,Mem.get_set_ne (by omega),Mem.get_push_old this];exact hb,by rw[hM3,Mem.size_set,Mem.size_push];omega⟩
 have g6':=mo3.get _ _ g6
 have g23:=mo3.get _ _ g22
 refine J0 (J1 ?_)
 simp only[zZ,reduceIte,yQ,yW,yX,yZ,yJ,yK,yV,zDk,Jc,Jd,J9,J8,g6',g9,row7,row5,hbdE,hbd,hal,Mem.get_push_new,agg13,put13]
 obtain⟨b10,hb10⟩:∃b,b=M3.size:=⟨_,rfl⟩
 obtain⟨M4,hM4⟩:∃M4,M4=(M3.push (.cells false s1 noRec.cells)).set M3.size (some (.cells false s1 (Rec.mk (Ext.mk H n) L).cells)):=⟨_,rfl⟩
 rw[←hM4,←hb10]
 have g10:M4.get b10=some (.cells false s1 (Rec.mk (Ext.mk H n) L).cells):=by rw[hM4,hb10];exact Mem.get_set_same (Mem.get_push_new _ _) _
 have mo4:More M3 M4:=⟨fun b x hb=>by
  have:=Mem.get_lt hb
  rw[hM4,Mem.get_set_ne (by omega),Mem.get_push_old this];exact hb,by rw[hM4,Mem.size_set,Mem.size_push];omega⟩
 have g24:=mo4.get _ _ g23
 have mo:=(m12.trans mo3).trans mo4
 obtain⟨gs0,ms0⟩:=fin M4 noRec noRec g24 mo
 obtain⟨gs,ms⟩:=fin M4 (Rec.mk (Ext.mk H n) L) noRec g24 mo
 refine J0 (J0 (J1 ?_))
 rcases s02 with s02|s02
 case inr=>
  rw[if_pos (.inr (.inr (by rw[s02];decide)))]at hr
  rw[s02]
  subst hr
  refine S1 @q20 ?_
  refine CT (J0 (R4 @hbd0 @g24 @agg13 @put13 ?_))
  refine T3 @JU @gs0 @row13 ?_
  exact⟨_,Thin.refl _,ms0⟩
 have hLl:=slen s02
 rw[s02]at hr ⊢
 refine S3 @q00 @g10 @row13 ?_
 refine⟨by kernel_rfl,_,jcheck_at (Rec.mk (Ext.mk H n) L) _,?_⟩
 rintro _ M9 ⟨rfl,e9⟩;replace e9:=e9.symm;subst e9
 by_cases hq2:Jz (Ext.mk H n)=true
 ·have ec:(Rec.mk (Ext.mk H n) L).checkI=0:=by
   unfold Rec.checkI Rec.may
   rw[if_pos]
   show(Jz (Ext.mk H n)&&decide ((L.length:Int)=H.n))=true
   rw[hq2,hq,hLl];simp
  rw[if_neg (by rintro(h3|h3|h3);exact h3 rfl;rw[hq2]at h3;cases h3;exact h3 rfl)]at hr
  subst hr
  rw[ec]
  refine S1 @q00 ?_
  refine CF (J6 ?_)
  simp only[zZ,reduceIte,yQ,yW,yX,yZ,yJ,yK,yV]
  refine J0 (R5 @g10 @row13 @g24 @agg13 @put13 ?_)
  refine T3 @JU @gs @row13 ?_
  exact⟨_,Thin.refl _,ms⟩
 ·have ec:(Rec.mk (Ext.mk H n) L).checkI=1:=by
   unfold Rec.checkI Rec.may
   rw[if_neg]
   show¬(Jz (Ext.mk H n)&&decide ((L.length:Int)=H.n))=true
   rw[qt]
   exact fun h=>hq2 h.1
  rw[if_pos (.inr (.inl (by simpa using hq2)))]at hr
  subst hr
  rw[ec]
  refine S1 @q10 ?_
  refine CT (J0 (R4 @hbd0 @g24 @agg13 @put13 ?_))
  refine T3 @JU @gs0 @row13 ?_
  exact⟨_,Thin.refl _,ms0⟩
theorem jtake_at(s:List UInt8)(hs:s.length=256)(m:Mem):
 Abs.Spec qc 71 [.string (str s)] m fun u M=>u=.tuple #[.agg (QL s).1.cells.toArray,.int .i64 (QL s).2]∧M=m:=
 Abs.Spec.of_empty (by intro x hx;simp at hx;subst hx;rfl) rfl ((jtake_spec s hs ⟨[]⟩).mono fun _ _ h=>h.1) m
def PtrTo{α:Type}(enc:α→List Value)(K:List Nat)(M:Mem):Option α→Value→Prop
 |none,v=>v=.pointer none
 |some a,v=>∃b s,b∉K∧v=.pointer (some ⟨b,0,none⟩)∧M.get b=some (.cells false s (enc a))
structure PtrsAt{α:Type}(enc:α→List Value)(K:List Nat)(M:Mem)(l:List (Option α))(vs:List Value):Prop where
 len:vs.length=l.length
 at_:∀(i:Nat)(o:Option α),l[i]?=some o→∃v,vs[i]?=some v∧PtrTo enc K M o v
theorem PtrTo.same{α:Type}{enc:α→List Value}{K:List Nat}{M M':Mem}{o:Option α}{v:Value}(h:PtrTo enc K M o v)(hs:∀b x,b∉K→M.get b=some x→M'.get b=some x):PtrTo enc K M' o v:=by
 cases o with
 |none=>exact h
 |some a=>
  obtain⟨b,s,h1,h2,h3⟩:=h
  exact⟨b,s,h1,h2,hs b _ h1 h3⟩
theorem PtrsAt.same{α:Type}{enc:α→List Value}{K:List Nat}{M M':Mem}{l:List (Option α)}{vs:List Value}(h:PtrsAt enc K M l vs)(hs:∀b x,b∉K→M.get b=some x→M'.get b=some x):PtrsAt enc K M' l vs:=
 ⟨h.len,fun i o hi=>by obtain⟨v,h1,h2⟩:=h.at_ i o hi;exact⟨v,h1,h2.same hs⟩⟩
theorem PtrsAt.set{α:Type}{enc:α→List Value}{K:List Nat}{M:Mem}{l:List (Option α)}{vs:List Value}(h:PtrsAt enc K M l vs)(i:Nat)(o:Option α)(v:Value)(hv:PtrTo enc K M o v):PtrsAt enc K M (l.set i o) (vs.set i v):=
 ⟨by rw[qq,qq,h.len],fun j o' hj=>by
  by_cases e:i=j
  ·subst e
   have hl:i<l.length:=by have:=(qe.1 hj).1;rwa [qq]at this
   rw[qp hl]at hj
   cases hj
   exact⟨v,qp (by rw[h.len];exact hl),hv⟩
  ·rw[qo e]at hj ⊢
   exact h.at_ j o' hj⟩
def JG(p:Nat)(D:Dep)(vo vk:List Value):List Value:=[.pointer (some ⟨p,0,none⟩),.string (str D.key),.int .i64 D.epoch]++(vo++(vk++[.int .i64 D.staged]))
structure DepAt(M:Mem)(P p q g:Nat)(d:Dsk)(D:Dep):Prop where
 dsk:DskAt M p q g d
 ok:D.Ok d.old.length
 row:∃s vo vk,M.get P=some (.cells false s (JG p D vo vk))∧PtrsAt Rec.cells [P,p,q,g] M D.opn vo∧PtrsAt Ext.cells [P,p,q,g] M D.kept vk
 ne:P≠p∧P≠q∧P≠g
theorem DepAt.same{M M':Mem}{P p q g:Nat}{d:Dsk}{D:Dep}(h:DepAt M P p q g d D)(hs:∀b x,M.get b=some x→M'.get b=some x):DepAt M' P p q g d D:=
 ⟨h.dsk.same hs,h.ok,by
  obtain⟨s,vo,vk,h1,h2,h3⟩:=h.row
  exact⟨s,vo,vk,hs _ _ h1,h2.same fun b x _=>hs b x,h3.same fun b x _=>hs b x⟩,h.ne⟩
theorem DepAt.disk{M M':Mem}{P p q g:Nat}{d d':Dsk}{D:Dep}(h:DepAt M P p q g d D)(hd:DskAt M' p q g d')(hl:d'.old.length=d.old.length)(ho:Only [p,q,g] M M'):DepAt M' P p q g d' D:=
 ⟨hd,by rw[hl];exact h.ok,by
  obtain⟨s,vo,vk,h1,h2,h3⟩:=h.row
  have hk:∀b x,b∉ [P,p,q,g]→M.get b=some x→M'.get b=some x:=fun b x hb hx=>ho b x (by simp at hb ⊢;exact hb.2) hx
  exact⟨s,vo,vk,ho _ _ (by simp;exact h.ne) h1,h2.same hk,h3.same hk⟩,h.ne⟩
theorem depC_opn(p:Nat)(D:Dep)(vo vk:List Value)(hv:vo.length=4)(i:Nat)(hi:i<4):(JG p D vo vk)[3+i]?=vo[i]?:=by
 unfold JG
 rw[qi (by simp),qr (by simp;omega)]
 simp
theorem depC_kept(p:Nat)(D:Dep)(vo vk:List Value)(hv:vo.length=4)(hk:vk.length=8)(i:Nat)(hi:i<8):(JG p D vo vk)[7+i]?=vk[i]?:=by
 unfold JG
 rw[qi (by simp;omega),qi (by simp;omega),qr (by simp;omega)]
 simp[hv]
 congr 1
 omega
theorem Za{α:Type}(f:α→Bool):∀(l:List (Option α))(i:Nat),(X4 f l i=none∧∀(j:Nat) a,l[j]?=some (some a)→f a=false)∨∃(j:Nat)(a:α),X4 f l i=some (i+j,a)∧l[j]?=some (some a)∧f a=true∧∀(k:Nat) b,k<j→l[k]?=some (some b)→f b=false
 | [],i=>.inl ⟨rfl,fun j a h=>by simp at h⟩
 |some a::r,i=>by
  unfold X4
  by_cases e:f a=true
  ·rw[if_pos e];exact .inr ⟨0,a,rfl,rfl,e,fun k b hk=>by omega⟩
  ·rw[if_neg e]
   have e':f a=false:=by simpa using e
   rcases Za f r (i+1)with⟨h1,h2⟩|⟨j,b,h1,h2,h3,h4⟩
   ·refine .inl ⟨h1,fun j b hj=>?_⟩
    cases j with
    |zero=>simp at hj;subst hj;exact e'
    |succ j=>exact h2 j b (by simpa using hj)
   ·refine .inr ⟨j+1,b,by rw[h1];congr 2;omega,by simpa using h2,h3,fun k c hk hc=>?_⟩
    cases k with
    |zero=>simp at hc;subst hc;exact e'
    |succ k=>exact h4 k c (by omega) (by simpa using hc)
 |none::r,i=>by
  unfold X4
  rcases Za f r (i+1)with⟨h1,h2⟩|⟨j,b,h1,h2,h3,h4⟩
  ·refine .inl ⟨h1,fun j b hj=>?_⟩
   cases j with
   |zero=>simp at hj
   |succ j=>exact h2 j b (by simpa using hj)
  ·refine .inr ⟨j+1,b,by rw[h1];congr 2;omega,by simpa using h2,h3,fun k c hk hc=>?_⟩
   cases k with
   |zero=>simp at hc
   |succ k=>exact h4 k c (by omega) (by simpa using hc)
theorem findAt_is{α:Type}{f:α→Bool}{l:List (Option α)}{j:Nat}{a:α}(h1:l[j]?=some (some a))(h2:f a=true)(h3:∀(k:Nat) b,k<j→l[k]?=some (some b)→f b=false):X4 f l 0=some (j,a):=by
 rcases Za f l 0 with⟨_,h⟩|⟨j',a',e,h4,h5,h6⟩
 ·rw[h j a h1]at h2;cases h2
 ·rcases Nat.lt_trichotomy j j' with hl|hl|hl
  ·rw[h6 j a hl h1]at h2;cases h2
  ·subst hl;rw[h1]at h4;cases h4;rw[e,Nat.zero_add]
  ·rw[h3 j' a' hl h4]at h5;cases h5
theorem findAt_not{α:Type}{f:α→Bool}{l:List (Option α)}(h3:∀(k:Nat) b,l[k]?=some (some b)→f b=false):X4 f l 0=none:=by
 rcases Za f l 0 with⟨h,_⟩|⟨j',a',e,h4,h5,h6⟩
 ·exact h
 ·rw[h3 j' a' h4]at h5;cases h5
def isRec(id:Int)(o:Option Rec):Bool:=match o with|some r=>decide (r.x.head.id=id)|none=>false
def isExt(id:Int)(o:Option Ext):Bool:=match o with|some x=>decide (x.head.id=id)|none=>false
theorem isrec_spec(o:Option Rec)(K:List Nat)(M:Mem)(v:Value)(hv:PtrTo Rec.cells K M o v)(b s:Nat)(ro:Bool)(id:Int)(hb:M.get b=some (.cells ro s [.int .i64 id])):
 Abs.Spec qc 161 [v,.pointer (some ⟨b,0,none⟩)] M fun u M'=>u=.bool (isRec id o)∧M'=M:=by
 refine VE Tryz.func161 Tryz.results161 Tryz.ntmps161 fun hc hx k=>?_
 have c2:cellIn 0 (some (.cells ro s [.int .i64 id]))=some (.int .i64 id):=rfl
 refine J0 (R0 ?_)
 cases o with
 |none=>
  obtain rfl:v=.pointer none:=hv
  refine J0 (D2 10 @hb @c2 ?_)
  refine T0 ?_
  exact⟨_,Thin.refl _,rfl,rfl⟩
 |some r=>
  obtain⟨b',s',_,rfl,hr⟩:=hv
  have c1:cellIn 0 (some (.cells false s' r.cells))=some (.int .i64 r.x.head.id):=rfl
  have e:(r.x.head.id==id)=isRec id (some r):=by
   show _=decide (r.x.head.id=id)
   rw[qB];simp
  refine J0 (D5 10 @hb @c2 @hr @c1 @e ?_)
  refine T0 ?_
  exact⟨_,Thin.refl _,rfl⟩
theorem isext_spec(o:Option Ext)(K:List Nat)(M:Mem)(v:Value)(hv:PtrTo Ext.cells K M o v)(b s:Nat)(ro:Bool)(id:Int)(hb:M.get b=some (.cells ro s [.int .i64 id])):
 Abs.Spec qc 163 [v,.pointer (some ⟨b,0,none⟩)] M fun u M'=>u=.bool (isExt id o)∧M'=M:=by
 refine VE Tryz.func163 Tryz.results163 Tryz.ntmps163 fun hc hx k=>?_
 have c2:cellIn 0 (some (.cells ro s [.int .i64 id]))=some (.int .i64 id):=rfl
 refine J0 (R0 ?_)
 cases o with
 |none=>
  obtain rfl:v=.pointer none:=hv
  refine J0 (D2 9 @hb @c2 ?_)
  refine T0 ?_
  exact⟨_,Thin.refl _,rfl,rfl⟩
 |some r=>
  obtain⟨b',s',_,rfl,hr⟩:=hv
  have c1:cellIn 0 (some (.cells false s' r.cells))=some (.int .i64 r.head.id):=rfl
  have e:(r.head.id==id)=isExt id (some r):=by
   show _=decide (r.head.id=id)
   rw[qB];simp
  refine J0 (D5 9 @hb @c2 @hr @c1 @e ?_)
  refine T0 ?_
  exact⟨_,Thin.refl _,rfl⟩
theorem place_rec{l:List (Option Rec)}{id:Int}{j:Nat}{a:Rec}(h1:l[j]?=some (some a))(h2:isRec id (some a)=true)(h3:∀(k:Nat) o,k<j→l[k]?=some o→isRec id o=false):XZ (X4 (fun x:Rec=>decide (x.x.head.id=id)) l 0)=(j:Int):=by
 rw[findAt_is (f:=fun x:Rec=>decide (x.x.head.id=id)) h1 h2 fun k b hk hb=>h3 k (some b) hk hb];rfl
theorem noplace_rec{l:List (Option Rec)}{id:Int}(h3:∀(k:Nat) o,l[k]?=some o→isRec id o=false):XZ (X4 (fun x:Rec=>decide (x.x.head.id=id)) l 0)= -1:=by
 rw[findAt_not (f:=fun x:Rec=>decide (x.x.head.id=id)) fun k b hb=>h3 k (some b) hb];rfl
theorem idxrec_spec(P off s0 b s c:Nat)(ro:Bool)(id:Int)(K:List Nat)(M:Mem)(C:List Value)(vs:List Value)(l:List (Option Rec))(hC:M.get P=some (.cells false s0 C))(hvs:∀(i:Nat) v,vs[i]?=some v→C[off+i]?=some v)(h:PtrsAt Rec.cells K M l vs)(hl:l.length≤1000)
 (hb:M.get b=some (.cells ro s [.int .i64 id])):
 Abs.Spec qc 160 [.slice (some ⟨P,off,none⟩) l.length c,.func (.func 161) #[] #[.pointer (some ⟨b,0,none⟩)]] M fun u M'=>u=.int .i64 (XZ (X4 (fun x:Rec=>decide (x.x.head.id=id)) l 0))∧M'=M:=by
 refine VE Tryz.func160 Tryz.results160 Tryz.ntmps160 fun hc hx k=>?_
 refine J0 (R0 ?_)
 refine J0 (J0 (R0 ?_))
 refine Ja (JD (fun j f M'=>∃i:Nat,j=l.length-i∧f=[(0,.slice (some ⟨P,off,none⟩) l.length c),(1,.func (.func 161) #[] #[.pointer (some ⟨b,0,none⟩)]),(7,.int .i64 (l.length:Nat)),(8,.int .i64 (i:Nat))]∧i≤l.length∧
  (∀(k:Nat) o,k<i→l[k]?=some o→isRec id o=false)∧M'=M) l.length ?_ ?_)
 ·refine JK [0,1,7,8] ?_
  exact⟨M,Thin.refl _,0,rfl,rfl,by omega,fun k o hk=>by omega,rfl⟩
 ·rintro j f M' ⟨i,rfl,rfl,hi,hno,e9⟩
  replace e9:=e9.symm;subst e9
  refine J0 (R0 ?_)
  refine J0 (CC (decide ((i:Int)<(l.length:Int))) (fun hq=>J6 ?_) (fun hq=>JE ?_))
  ·have hiL:=of_decide_eq_true hq
   obtain⟨o,ho⟩:∃o,l[i]?=some o:=⟨_,qf (by omega)⟩
   obtain⟨v,hv,hp⟩:=h.at_ i o ho
   have z0:(0:Int)≤(i:Int):=by omega
   have r1:cellIn (off+i) (some (.cells false s0 C))=some v:=hvs i v hv
   have w9:IntKind.i64.wrap ((i:Int)+1)=((i+1:Nat):Int):=by rw[XJ (by omega) (by omega)];omega
   simp only[zZ,reduceIte,yQ,yW,yX,yZ,yJ,yK,yV]
   refine J0 (Ja (J0 (R0 ?_)))
   refine J0 (R6 @z0 @hiL @and_self @hC @qh @r1 ?_)
   refine⟨by kernel_rfl,_,isrec_spec o K _ v hp b s ro id hb,?_⟩
   rintro _ M2 ⟨rfl,e9⟩;replace e9:=e9.symm;subst e9
   refine S0 ?_
   refine CC (isRec id o) (fun he=>J0 (J1 ?_)) (fun he=>J6 ?_)
   ·refine S0 ?_
    refine T0 ?_
    cases o with
    |none=>cases he
    |some a=>exact⟨_,Thin.refl _,by rw[place_rec ho he hno],rfl⟩
   ·simp only[zZ,reduceIte,yQ,yW,yX,yZ,yJ,yK,yV]
    refine R1 @w9 ?_
    refine JK [0,1,7,8] ?_
    refine⟨_,Thin.refl _,l.length-(i+1),⟨i+1,rfl,rfl,by omega,fun k o' hk ho'=>?_,rfl⟩,by omega⟩
    by_cases e:k=i
    ·subst e;rw[ho]at ho';cases ho';exact he
    ·exact hno k o' (by omega) ho'
  ·have hiL:=of_decide_eq_false hq
   simp only[zZ,reduceIte,yQ,yW,yX,yZ,yJ,yK,yV]
   refine J0 (R0 ?_)
   refine T0 ?_
   refine⟨_,Thin.refl _,?_,rfl⟩
   rw[noplace_rec fun k o ho=>hno k o (by have:=(qe.1 ho).1;omega) ho]
theorem place_ext{l:List (Option Ext)}{id:Int}{j:Nat}{a:Ext}(h1:l[j]?=some (some a))(h2:isExt id (some a)=true)(h3:∀(k:Nat) o,k<j→l[k]?=some o→isExt id o=false):XZ (X4 (fun x:Ext=>decide (x.head.id=id)) l 0)=(j:Int):=by
 rw[findAt_is (f:=fun x:Ext=>decide (x.head.id=id)) h1 h2 fun k b hk hb=>h3 k (some b) hk hb];rfl
theorem noplace_ext{l:List (Option Ext)}{id:Int}(h3:∀(k:Nat) o,l[k]?=some o→isExt id o=false):XZ (X4 (fun x:Ext=>decide (x.head.id=id)) l 0)= -1:=by
 rw[findAt_not (f:=fun x:Ext=>decide (x.head.id=id)) fun k b hb=>h3 k (some b) hb];rfl
theorem idxext_spec(P off s0 b s c:Nat)(ro:Bool)(id:Int)(K:List Nat)(M:Mem)(C:List Value)(vs:List Value)(l:List (Option Ext))(hC:M.get P=some (.cells false s0 C))(hvs:∀(i:Nat) v,vs[i]?=some v→C[off+i]?=some v)(h:PtrsAt Ext.cells K M l vs)(hl:l.length≤1000)
 (hb:M.get b=some (.cells ro s [.int .i64 id])):
 Abs.Spec qc 162 [.slice (some ⟨P,off,none⟩) l.length c,.func (.func 163) #[] #[.pointer (some ⟨b,0,none⟩)]] M fun u M'=>u=.int .i64 (XZ (X4 (fun x:Ext=>decide (x.head.id=id)) l 0))∧M'=M:=by
 refine VE Tryz.func162 Tryz.results162 Tryz.ntmps162 fun hc hx k=>?_
 refine J0 (R0 ?_)
 refine J0 (J0 (R0 ?_))
 refine Ja (JD (fun j f M'=>∃i:Nat,j=l.length-i∧f=[(0,.slice (some ⟨P,off,none⟩) l.length c),(1,.func (.func 163) #[] #[.pointer (some ⟨b,0,none⟩)]),(7,.int .i64 (l.length:Nat)),(8,.int .i64 (i:Nat))]∧i≤l.length∧
  (∀(k:Nat) o,k<i→l[k]?=some o→isExt id o=false)∧M'=M) l.length ?_ ?_)
 ·refine JK [0,1,7,8] ?_
  exact⟨M,Thin.refl _,0,rfl,rfl,by omega,fun k o hk=>by omega,rfl⟩
 ·rintro j f M' ⟨i,rfl,rfl,hi,hno,e9⟩
  replace e9:=e9.symm;subst e9
  refine J0 (R0 ?_)
  refine J0 (CC (decide ((i:Int)<(l.length:Int))) (fun hq=>J6 ?_) (fun hq=>JE ?_))
  ·have hiL:=of_decide_eq_true hq
   obtain⟨o,ho⟩:∃o,l[i]?=some o:=⟨_,qf (by omega)⟩
   obtain⟨v,hv,hp⟩:=h.at_ i o ho
   have z0:(0:Int)≤(i:Int):=by omega
   have r1:cellIn (off+i) (some (.cells false s0 C))=some v:=hvs i v hv
   have w9:IntKind.i64.wrap ((i:Int)+1)=((i+1:Nat):Int):=by rw[XJ (by omega) (by omega)];omega
   simp only[zZ,reduceIte,yQ,yW,yX,yZ,yJ,yK,yV]
   refine J0 (Ja (J0 (R0 ?_)))
   refine J0 (R6 @z0 @hiL @and_self @hC @qh @r1 ?_)
   refine⟨by kernel_rfl,_,isext_spec o K _ v hp b s ro id hb,?_⟩
   rintro _ M2 ⟨rfl,e9⟩;replace e9:=e9.symm;subst e9
   refine S0 ?_
   refine CC (isExt id o) (fun he=>J0 (J1 ?_)) (fun he=>J6 ?_)
   ·refine S0 ?_
    refine T0 ?_
    cases o with
    |none=>cases he
    |some a=>exact⟨_,Thin.refl _,by rw[place_ext ho he hno],rfl⟩
   ·simp only[zZ,reduceIte,yQ,yW,yX,yZ,yJ,yK,yV]
    refine R1 @w9 ?_
    refine JK [0,1,7,8] ?_
    refine⟨_,Thin.refl _,l.length-(i+1),⟨i+1,rfl,rfl,by omega,fun k o' hk ho'=>?_,rfl⟩,by omega⟩
    by_cases e:k=i
    ·subst e;rw[ho]at ho';cases ho';exact he
    ·exact hno k o' (by omega) ho'
  ·have hiL:=of_decide_eq_false hq
   simp only[zZ,reduceIte,yQ,yW,yX,yZ,yJ,yK,yV]
   refine J0 (R0 ?_)
   refine T0 ?_
   refine⟨_,Thin.refl _,?_,rfl⟩
   rw[noplace_ext fun k o ho=>hno k o (by have:=(qe.1 ho).1;omega) ho]
def DepOr(M:Mem)(P p q g:Nat)(d:Dsk):Option Dep→Value→Prop
 |none,v=>v=.pointer none
 |some D,v=>v=.pointer (some ⟨P,0,none⟩)∧DepAt M P p q g d D
theorem sl_A4(get:Nat→Option Blk)(P o:Nat):JS qc get 118 (.pointer (some ⟨P,o,none⟩)) none none=some (.slice (some ⟨P,o,none⟩) 4 4):=by kernel_rfl
theorem sl_A8(get:Nat→Option Blk)(P o:Nat):JS qc get 120 (.pointer (some ⟨P,o,none⟩)) none none=some (.slice (some ⟨P,o,none⟩) 8 8):=by kernel_rfl
theorem find_spec(P p q g:Nat)(d:Dsk)(D:Dep)(id:Int)(M:Mem)(h:DepAt M P p q g d D):
 Abs.Spec qc 74 [.pointer (some ⟨P,0,none⟩),.int .i64 id] M fun u M'=>u=.tuple #[.int .i64 (XZ (D.rec? id)),.int .i64 (XZ (D.ext? id))]∧More M M':=by
 refine VE Tryz.func74 Tryz.results74 Tryz.ntmps74 fun hc hx k=>?_
 have b1:QK qc 3 (.int .i64 id)=some (.cells false (J5 qc 3) [.int .i64 id]):=by rfl
 generalize J5 qc 3=s1 at b1
 refine J0 (R1 @b1 ?_)
 obtain⟨M1,hM1⟩:∃M1,M1=M.push (.cells false s1 [.int .i64 id]):=⟨_,rfl⟩
 obtain⟨b3,hb3⟩:∃b,b=M.size:=⟨_,rfl⟩
 have g3:M1.get b3=some (.cells false s1 [.int .i64 id]):=by rw[hM1,hb3,Mem.get_push_new]
 have mo:More M M1:=by rw[hM1];exact More.push _ _
 rw[←hM1,←hb3]
 have h1:=h.same mo.get
 obtain⟨s,vo,vk,hrow,ho,hk⟩:=h1.row
 have l4:vo.length=4:=by rw[ho.len,h1.ok.opn]
 have l8:vk.length=8:=by rw[hk.len,h1.ok.kept]
 have io:=idxrec_spec P 3 s b3 s1 4 false id _ M1 _ vo D.opn hrow (fun i v hv=>by
  have:=(qe.1 hv).1
  rw[depC_opn _ _ _ _ l4 _ (by omega)];exact hv) ho (by rw[h1.ok.opn];decide) g3
 have ik:=idxext_spec P 7 s b3 s1 8 false id _ M1 _ vk D.kept hrow (fun i v hv=>by
  have:=(qe.1 hv).1
  rw[depC_kept _ _ _ _ l4 l8 _ (by omega)];exact hv) hk (by rw[h1.ok.kept];decide) g3
 rw[h1.ok.opn]at io
 rw[h1.ok.kept]at ik
 refine J0 (J0 (R0 ?_))
 refine CF (J6 ?_)
 simp only[zZ,reduceIte,yQ,yW,yX,yZ,yJ,yK,yV]
 refine J0 (J1 ?_)
 simp only[zZ,reduceIte,yQ,yW,yX,yZ,yJ,yK,yV,zDk,Jc,Jd,J9,J8,Zy,vFunc,sl_A4]
 refine K0 (io) ?_
 refine J0 (J1 ?_)
 simp only[zZ,reduceIte,yQ,yW,yX,yZ,yJ,yK,yV,zDk,Jc,Jd,J9,J8,Zy,vFunc,sl_A8]
 refine K0 (ik) ?_
 refine J0 (R0 ?_)
 refine T0 ?_
 exact⟨_,Thin.refl _,rfl,mo⟩
theorem Uk(id:Int)(M:Mem):
 Abs.Spec qc 74 [.pointer none,.int .i64 id] M fun u M'=>u=.tuple #[.int .i64 (-1),.int .i64 (-1)]∧More M M':=by
 refine VE Tryz.func74 Tryz.results74 Tryz.ntmps74 fun hc hx k=>?_
 have b1:QK qc 3 (.int .i64 id)=some (.cells false (J5 qc 3) [.int .i64 id]):=by rfl
 generalize J5 qc 3=s1 at b1
 refine J0 (R1 @b1 ?_)
 refine J0 (J0 (R0 ?_))
 refine CT (J0 (R0 ?_))
 refine T0 ?_
 exact⟨_,Thin.refl _,More.push _ _⟩
theorem find_or(P p q g:Nat)(d:Dsk)(D:Option Dep)(v:Value)(id:Int)(M:Mem)(h:DepOr M P p q g d D v):
 Abs.Spec qc 74 [v,.int .i64 id] M fun u M'=>u=.tuple #[.int .i64 (XZ (D.bind fun D=>D.rec? id)),.int .i64 (XZ (D.bind fun D=>D.ext? id))]∧More M M':=by
 cases D with
 |none=>obtain rfl:v=_:=h;exact Uk id M
 |some D=>obtain⟨rfl,h⟩:=h;exact find_spec P p q g d D id M h
theorem Xl{α:Type}(x:Nat×α):XZ (some x)=(x.1:Int):=rfl
theorem Xm{α:Type}:XZ (none:Option (Nat×α))= -1:=rfl
theorem X3{α:Type}{f:α→Bool}{l:List (Option α)}{j:Nat}{a:α}(h:X4 f l 0=some (j,a)):l[j]?=some (some a)∧f a=true:=by
 rcases Za f l 0 with⟨h1,_⟩|⟨j',a',e,h4,h5,_⟩
 ·rw[h1]at h;cases h
 ·rw[e,Nat.zero_add]at h
  simp only[Option.some.injEq,Prod.mk.injEq]at h
  obtain⟨rfl,rfl⟩:=h
  exact⟨h4,h5⟩
theorem DepAt.extAt{M:Mem}{P p q g:Nat}{d:Dsk}{D:Dep}(h:DepAt M P p q g d D){j:Nat}{x:Ext}(hj:D.kept[j]?=some (some x)):
 j<8∧∃b s,cellIn (7+j) (M.get P)=some (.pointer (some ⟨b,0,none⟩))∧b∉ [P,p,q,g]∧M.get b=some (.cells false s x.cells):=by
 obtain⟨s,vo,vk,hrow,ho,hk⟩:=h.row
 have l4:vo.length=4:=by rw[ho.len,h.ok.opn]
 have l8:vk.length=8:=by rw[hk.len,h.ok.kept]
 have hj8:j<8:=by have:=(qe.1 hj).1;rwa [h.ok.kept]at this
 obtain⟨v,hv,b,s',hb,rfl,hg⟩:=hk.at_ j _ hj
 refine⟨hj8,b,s',?_,hb,hg⟩
 rw[hrow]
 show(JG p D vo vk)[7+j]?=_
 rw[depC_kept _ _ _ _ l4 l8 _ hj8,hv]
theorem DepAt.recAt{M:Mem}{P p q g:Nat}{d:Dsk}{D:Dep}(h:DepAt M P p q g d D){j:Nat}{x:Rec}(hj:D.opn[j]?=some (some x)):
 j<4∧∃b s,cellIn (3+j) (M.get P)=some (.pointer (some ⟨b,0,none⟩))∧b∉ [P,p,q,g]∧M.get b=some (.cells false s x.cells):=by
 obtain⟨s,vo,vk,hrow,ho,hk⟩:=h.row
 have l4:vo.length=4:=by rw[ho.len,h.ok.opn]
 have hj4:j<4:=by have:=(qe.1 hj).1;rwa [h.ok.opn]at this
 obtain⟨v,hv,b,s',hb,rfl,hg⟩:=ho.at_ j _ hj
 refine⟨hj4,b,s',?_,hb,hg⟩
 rw[hrow]
 show(JG p D vo vk)[3+j]?=_
 rw[depC_opn _ _ _ _ l4 _ hj4,hv]
def headOr(D:Option Dep)(id:Int):Header×Bool×Int:=match D with|none=>(noHead,false,8)|some D=>D.headAt id
theorem head_spec(P p q g:Nat)(d:Dsk)(D:Option Dep)(v:Value)(id:Int)(M:Mem)(h:DepOr M P p q g d D v):
 Abs.Spec qc 20 [v,.int .i64 id] M fun u M'=>u=.tuple #[.agg (headOr D id).1.cells.toArray,.bool (headOr D id).2.1,.int .i64 (headOr D id).2.2]∧More M M':=by
 refine VE Tryz.func20 Tryz.results20 Tryz.ntmps20 fun hc hx k=>?_
 have hal:Q0 qc 33=some (.cells false (J5 qc 33) noHead.cells):=al_Hdr
 generalize J5 qc 33=s1 at hal
 obtain⟨r,hr⟩:∃r,r=headOr D id:=⟨_,rfl⟩
 rw[←hr]
 refine J0 (R1 @hal ?_)
 have hbd0:Qt qc 33 []=some (.agg noHead.cells.toArray):=by kernel_rfl
 have row7:∀h:Header,Jm 7 0 (some (.cells false s1 h.cells))=some (.agg h.cells.toArray):=fun _=>rfl
 have agg7:∀h:Header,(Value.agg h.cells.toArray).cells.toList=h.cells:=fun _=>rfl
 have put7:∀(M0:Mem)(b:Nat)(x y:Header),Jk 7 M0 b 0 y.cells (some (.cells false s1 x.cells))=some (M0.set b (some (.cells false s1 y.cells))):=fun _ _ _ _=>rfl
 obtain⟨b4,hb4⟩:∃b,b=M.size:=⟨_,rfl⟩
 obtain⟨M1,hM1⟩:∃M1,M1=M.push (.cells false s1 noHead.cells):=⟨_,rfl⟩
 have g4:M1.get b4=some (.cells false s1 noHead.cells):=by rw[hM1,hb4,Mem.get_push_new]
 have mo1:More M M1:=by rw[hM1];exact More.push _ _
 rw[←hM1,←hb4]
 have h1:DepOr M1 P p q g d D v:=by
  cases D with
  |none=>exact h
  |some D=>exact⟨h.1,h.2.same mo1.get⟩
 have fin:∀(M':Mem)(x y:Header),M'.get b4=some (.cells false s1 y.cells)→More M M'→(M'.set b4 (some (.cells false s1 x.cells))).get b4=some (.cells false s1 x.cells)∧More M (M'.set b4 (some (.cells false s1 x.cells))):=fun M' x y hg hm=>
  ⟨Mem.get_set_same hg _,fun b z hb=>by
   have:=Mem.get_lt hb
   rw[Mem.get_set_ne (by omega)];exact hm.get b z hb,by rw[Mem.size_set];exact hm.size⟩
 refine J0 (J0 (R0 ?_))
 refine⟨by kernel_rfl,_,find_or P p q g d D v id M1 h1,?_⟩
 rintro _ M2 ⟨rfl,mo2⟩
 have g42:=mo2.get _ _ g4
 have mo:=mo1.trans mo2
 refine S0 ?_
 cases hD:D with
 |none=>
  rw[hD]at hr
  have q1:decide ((XZ ((none:Option Dep).bind fun D=>D.ext? id))≥0)=false:=rfl
  have q2:decide ((XZ ((none:Option Dep).bind fun D=>D.rec? id))≥0)=false:=rfl
  refine Ja (J0 (R1 @q1 ?_))
  refine CF (J0 (R1 @q2 ?_))
  refine CF (J6 ?_)
  simp only[zZ,reduceIte,yQ,yW,yX,yZ,yJ,yK,yV]
  obtain⟨gs,ms⟩:=fin M2 noHead noHead g42 mo
  refine J0 (R4 @hbd0 @g42 @agg7 @put7 ?_)
  refine T3 @JU @gs @row7 ?_
  exact⟨_,Thin.refl _,by rw[hr];rfl,ms⟩
 |some D=>
  subst hD
  obtain⟨rfl,h2⟩:=h1
  have h3:=h2.same mo2.get
  have hr2:r=D.headAt id:=hr
  unfold Dep.headAt at hr2
  simp only[qv]
  cases he:D.ext? id with
  |some y=>
   obtain⟨j,x⟩:=y
   rw[he]at hr2
   obtain⟨hj,b,s',r1,_,gb⟩:=h3.extAt (X3 he).1
   have rb:Jm 7 0 (some (.cells false s' x.cells))=some (.agg x.head.cells.toArray):=rfl
   have q1:decide ((j:Int)≥0)=true:=by simp
   have z0:(0:Int)≤(j:Int):=by omega
   have z8:(j:Int)<((8:Nat):Int):=by omega
   have z8':(j:Int)<8:=by omega
   obtain⟨gs,ms⟩:=fin M2 x.head noHead g42 mo
   simp only[Xl]
   refine Ja (J0 (R1 @q1 ?_))
   refine CT (J0 (J1 ?_))
   simp only[zZ,reduceIte,yQ,yW,yX,yZ,yJ,yK,yV,zDk,Jc,Jd,J9,J8,Zy,z0,z8,z8',and_self,qh,r1,gb,rb,g42,agg7,put7]
   refine T3 @JU @gs @row7 ?_
   exact⟨_,Thin.refl _,by rw[hr2],ms⟩
  |none=>
   rw[he]at hr2
   have q1:decide ((-1:Int)≥0)=false:=rfl
   simp only[Xm]
   refine Ja (J0 (R1 @q1 ?_))
   refine CF (J0 (J1 ?_))
   cases hc2:D.rec? id with
   |some y=>
    obtain⟨j,x⟩:=y
    rw[hc2]at hr2
    obtain⟨hj,b,s',r1,_,gb⟩:=h3.recAt (X3 hc2).1
    have rb:Jm 7 0 (some (.cells false s' x.cells))=some (.agg x.x.head.cells.toArray):=rfl
    have q2:decide ((j:Int)≥0)=true:=by simp
    have z0:(0:Int)≤(j:Int):=by omega
    have z8:(j:Int)<((4:Nat):Int):=by omega
    have z8':(j:Int)<4:=by omega
    obtain⟨gs,ms⟩:=fin M2 x.x.head noHead g42 mo
    refine S2 @Xl @q2 ?_
    refine CT (J0 (J1 ?_))
    simp only[zZ,reduceIte,yQ,yW,yX,yZ,yJ,yK,yV,zDk,Jc,Jd,J9,J8,Zy,z0,z8,z8',and_self,qh,r1,gb,rb,g42,agg7,put7]
    refine T3 @JU @gs @row7 ?_
    exact⟨_,Thin.refl _,by rw[hr2],ms⟩
   |none=>
    rw[hc2]at hr2
    obtain⟨gs,ms⟩:=fin M2 noHead noHead g42 mo
    refine S2 @Xm @q1 ?_
    refine CF (J6 ?_)
    simp only[zZ,reduceIte,yQ,yW,yX,yZ,yJ,yK,yV]
    refine J0 (R4 @hbd0 @g42 @agg7 @put7 ?_)
    refine T3 @JU @gs @row7 ?_
    exact⟨_,Thin.refl _,by rw[hr2],ms⟩
theorem DepOr.same{M M':Mem}{P p q g:Nat}{d:Dsk}{D:Option Dep}{v:Value}(h:DepOr M P p q g d D v)(hs:More M M'):DepOr M' P p q g d D v:=by
 cases D with
 |none=>exact h
 |some D=>exact⟨h.1,h.2.same hs.get⟩
def gotOr(D:Option Dep)(id:Int):List Bool×Int:=match D with|none=>([],8)|some D=>D.got id
theorem got_spec(P p q g:Nat)(d:Dsk)(D:Option Dep)(v:Value)(id:Int)(M:Mem)(h:DepOr M P p q g d D v):
 Abs.Spec qc 21 [v,.int .i64 id] M fun u M'=>u=.tuple #[QI (gotOr D id).1,.int .i64 (gotOr D id).2]∧More M M':=by
 refine VE Tryz.func21 Tryz.results21 Tryz.ntmps21 fun hc hx k=>?_
 have hal:Q0 qc 57=some (.cells false (J5 qc 57) (setCells [])):=al_Set
 generalize J5 qc 57=s1 at hal
 obtain⟨r,hr⟩:∃r,r=gotOr D id:=⟨_,rfl⟩
 rw[←hr]
 have hbd0:Qt qc 57 []=some (QI []):=by kernel_rfl
 have row5:∀l,Jm 5 0 (some (.cells false s1 (setCells l)))=some (QI l):=fun _=>rfl
 have agg5:∀l,(QI l).cells.toList=setCells l:=fun _=>rfl
 have put5:∀(M0:Mem)(b:Nat)(x y:List Bool),Jk 5 M0 b 0 (setCells y) (some (.cells false s1 (setCells x)))=some (M0.set b (some (.cells false s1 (setCells y)))):=fun _ _ _ _=>rfl
 refine J0 (R1 @hal ?_)
 obtain⟨b4,hb4⟩:∃b,b=M.size:=⟨_,rfl⟩
 obtain⟨M1,hM1⟩:∃M1,M1=M.push (.cells false s1 (setCells [])):=⟨_,rfl⟩
 have g4:M1.get b4=some (.cells false s1 (setCells [])):=by rw[hM1,hb4,Mem.get_push_new]
 have mo1:More M M1:=by rw[hM1];exact More.push _ _
 rw[←hM1,←hb4]
 have h1:=h.same mo1
 have fin:∀(M':Mem)(x y:List Bool),M'.get b4=some (.cells false s1 (setCells y))→More M M'→(M'.set b4 (some (.cells false s1 (setCells x)))).get b4=some (.cells false s1 (setCells x))∧More M (M'.set b4 (some (.cells false s1 (setCells x)))):=fun M' x y hg hm=>
  ⟨Mem.get_set_same hg _,fun b z hb=>by
   have:=Mem.get_lt hb
   rw[Mem.get_set_ne (by omega)];exact hm.get b z hb,by rw[Mem.size_set];exact hm.size⟩
 refine J0 (R0 ?_)
 refine⟨by kernel_rfl,_,find_or P p q g d D v id M1 h1,?_⟩
 rintro _ M2 ⟨rfl,mo2⟩
 have g42:=mo2.get _ _ g4
 have mo:=mo1.trans mo2
 refine S0 ?_
 cases hD:D.bind fun D=>D.rec? id with
 |none=>
  have hr2:r=([],8):=by
   rw[hr]
   cases D with
   |none=>rfl
   |some D=>
    unfold gotOr Dep.got
    simp only[qv]at hD
    simp only[hD]
  have q1:decide ((-1:Int)<0)=true:=rfl
  simp only[Xm]
  obtain⟨gs,ms⟩:=fin M2 [] [] g42 mo
  refine J0 (J0 (R1 @q1 ?_))
  refine CT (J0 (R4 @hbd0 @g42 @agg5 @put5 ?_))
  refine T3 @JU @gs @row5 ?_
  exact⟨_,Thin.refl _,by rw[hr2],ms⟩
 |some y=>
  obtain⟨j,x⟩:=y
  cases D with
  |none=>cases hD
  |some D=>
   simp only[qv]at hD
   obtain⟨rfl,h2⟩:=h1
   have h3:=h2.same mo2.get
   have hr2:r=(x.got,0):=by
    rw[hr]
    unfold gotOr Dep.got
    simp only
    rw[hD]
   obtain⟨hj,b,s',r1,_,gb⟩:=h3.recAt (X3 hD).1
   have rb:Jm 5 8 (some (.cells false s' x.cells))=some (QI x.got):=rfl
   have q2:decide ((j:Int)<0)=false:=decide_eq_false (by omega)
   have z0:(0:Int)≤(j:Int):=by omega
   have z8:(j:Int)<((4:Nat):Int):=by omega
   have z8':(j:Int)<4:=by omega
   obtain⟨gs,ms⟩:=fin M2 x.got [] g42 mo
   simp only[Xl]
   refine J0 (J0 (R1 @q2 ?_))
   refine CF (J6 ?_)
   simp only[zZ,reduceIte,yQ,yW,yX,yZ,yJ,yK,yV]
   refine J0 (J1 ?_)
   simp only[zZ,reduceIte,yQ,yW,yX,yZ,yJ,yK,yV,zDk,Jc,Jd,J9,J8,Zy,z0,z8,z8',and_self,qh,r1,gb,rb,g42,agg5,put5]
   refine T3 @JU @gs @row5 ?_
   exact⟨_,Thin.refl _,by rw[hr2],ms⟩
theorem depoch_spec(P p q g:Nat)(d:Dsk)(D:Option Dep)(v:Value)(M:Mem)(h:DepOr M P p q g d D v):
 Abs.Spec qc 28 [v] M fun u M'=>u=.int .i64 ((D.map Dep.epoch).getD 0)∧M'=M:=by
 refine VE Tryz.func28 Tryz.results28 Tryz.ntmps28 fun hc hx k=>?_
 refine J0 (R0 ?_)
 cases D with
 |none=>
  obtain rfl:v=_:=h
  refine J0 (J0 (R0 ?_))
  refine CT (J0 (R0 ?_))
  refine T0 ?_
  exact⟨_,Thin.refl _,rfl,rfl⟩
 |some D=>
  obtain⟨rfl,h⟩:=h
  obtain⟨s,vo,vk,hrow,ho,hk⟩:=h.row
  have c2:cellIn 2 (some (.cells false s (JG p D vo vk)))=some (.int .i64 D.epoch):=rfl
  refine J0 (J0 (R0 ?_))
  refine CF (J6 ?_)
  simp only[zZ,reduceIte,yQ,yW,yX,yZ,yJ,yK,yV]
  refine J0 (R2 @hrow @c2 ?_)
  refine T0 ?_
  exact⟨_,Thin.refl _,rfl,rfl⟩
theorem depC_staged(p:Nat)(D:Dep)(vo vk:List Value)(hv:vo.length=4)(hk:vk.length=8):(JG p D vo vk)[15]?=some (.int .i64 D.staged):=by
 unfold JG
 rw[qi (by simp),qi (by simp;omega),qi (by simp;omega)]
 simp[hv,hk]
theorem dstaged_spec(P p q g:Nat)(d:Dsk)(D:Option Dep)(v:Value)(M:Mem)(h:DepOr M P p q g d D v):
 Abs.Spec qc 29 [v] M fun u M'=>u=.int .i64 ((D.map Dep.staged).getD 0)∧M'=M:=by
 refine VE Tryz.func29 Tryz.results29 Tryz.ntmps29 fun hc hx k=>?_
 refine J0 (R0 ?_)
 cases D with
 |none=>
  obtain rfl:v=_:=h
  refine J0 (J0 (R0 ?_))
  refine CT (J0 (R0 ?_))
  refine T0 ?_
  exact⟨_,Thin.refl _,rfl,rfl⟩
 |some D=>
  obtain⟨rfl,h⟩:=h
  obtain⟨s,vo,vk,hrow,ho,hk⟩:=h.row
  have c2:cellIn 15 (some (.cells false s (JG p D vo vk)))=some (.int .i64 D.staged):=depC_staged p D vo vk (by rw[ho.len,h.ok.opn]) (by rw[hk.len,h.ok.kept])
  refine J0 (J0 (R0 ?_))
  refine CF (J6 ?_)
  simp only[zZ,reduceIte,yQ,yW,yX,yZ,yJ,yK,yV]
  refine J0 (R2 @hrow @c2 ?_)
  refine T0 ?_
  exact⟨_,Thin.refl _,rfl,rfl⟩
theorem Qw(d:Dsk)(i:Int)(x:List UInt8):(d.write i x).1.old.length=d.old.length:=by
 unfold Dsk.write
 split
 ·rfl
 ·split
  ·rfl
  ·split
   ·rw[Qi]
   ·show(d.burnt.put _ _).old.length=_
    unfold Dsk.put
    rw[Qi]
theorem sync_len(d:Dsk):d.sync.1.old.length=d.old.length:=by
 unfold Dsk.sync
 split
 ·rfl
 ·split
  ·rw[Qi]
  ·show d.burnt.synced.old.length=_
   unfold Dsk.synced
   simp[Qi]
theorem note_spec(P p q g:Nat)(d:Dsk)(D:Dep)(M:Mem)(h:DepAt M P p q g d D)(i:Nat)(hi:i<4)(r:Rec)(hr:r.may=true):
 Abs.Spec qc 61 [.pointer (some ⟨P,0,none⟩),.int .i64 (i:Nat),.agg r.cells.toArray] M fun u M'=>u=.int .i64 (d.write ((1+i:Nat):Int) (QD r)).2∧DepAt M' P p q g (d.write ((1+i:Nat):Int) (QD r)).1 D∧Only [p,q,g] M M'∧M.size≤M'.size:=by
 obtain⟨W,hW⟩:∃W,W=d.write ((1+i:Nat):Int) (QD r):=⟨_,rfl⟩
 rw[←hW]
 have hlen:W.1.old.length=d.old.length:=by rw[hW];exact Qw _ _ _
 refine VE Tryz.func61 Tryz.results61 Tryz.ntmps61 fun hc hx k=>?_
 have bx:QK qc 132 (.agg r.cells.toArray)=some (.cells false (J5 qc 132) r.cells):=bx_Rec _ rfl
 generalize J5 qc 132=s1 at bx
 have row13:Jm 13 0 (some (.cells false s1 r.cells))=some (.agg r.cells.toArray):=rfl
 obtain⟨M1,hM1⟩:∃M1,M1=M.push (.cells false s1 r.cells):=⟨_,rfl⟩
 have mo:More M M1:=by rw[hM1];exact More.push _ _
 have hs1:M1.size=M.size+1:=by rw[hM1,Mem.size_push]
 have g1:M1.get M.size=some (.cells false s1 r.cells):=by rw[hM1,Mem.get_push_new]
 have ho1:Only [p,q,g] M M1:=fun b x _ hb=>mo.get b x hb
 have h1:=h.same mo.get
 obtain⟨s,vo,vk,hrow,ho,hk⟩:=h1.row
 have c0:cellIn 0 (some (.cells false s (JG p D vo vk)))=some (dp p):=rfl
 have erec:recT r=str (QD r):=if_pos hr
 have w1:IntKind.i64.wrap (1+(i:Int))=((1+i:Nat):Int):=by rw[XJ (by omega) (by omega)];omega
 have jl:(QD r).length≤1000000:=by
  have hmx:Jz r.x=true:=by unfold Rec.may at hr;rw[qt]at hr;exact hr.1
  have hl:=UI (UE hmx).1
  unfold QD
  simp only[qn,hl,Sha.fixed_length,setText_len]
  decide
 refine J0 (R1 @bx ?_)
 rw[←hM1]
 refine J0 (R2 @g1 @row13 ?_)
 refine K0 (jput_at r _) ?_
 refine J0 (R4 @hrow @c0 @w1 @erec ?_)
 refine⟨by kernel_rfl,_,XI _ p q g d h1.dsk ((1+i:Nat):Int) (QD r) jl,?_⟩
 rintro _ M2 ⟨rfl,hd2,ho2,hs2⟩
 rw[←hW]at hd2 ⊢
 refine S0 ?_
 refine T0 ?_
 have ho2':Only [p,q,g] M1 M2:=ho2.mono (by simp)
 exact⟨_,Thin.refl _,h1.disk hd2 hlen ho2',ho1.trans ho2',by omega⟩
theorem PtrsAt.only{α:Type}{enc:α→List Value}{K l:List Nat}{M M':Mem}{L:List (Option α)}{vs:List Value}(h:PtrsAt enc K M L vs)(hs:Only l M M')(hl:∀b∈l,b∈K):PtrsAt enc K M' L vs:=
 h.same fun b x hb hx=>hs b x (fun hm=>hb (hl b hm)) hx
theorem depC_setK(p:Nat)(D:Dep)(vo vk:List Value)(hv:vo.length=4)(hk:vk.length=8)(i:Nat)(hi:i<8)(w:Value)(x:Option Ext):(JG p D vo vk).set (7+i) w=JG p { D with kept:=D.kept.set i x } vo (vk.set i w):=by
 unfold JG
 rw[qk _ _ (by simp;omega),qk _ _ (by simp;omega),List.set_append_left _ _ (by simp;omega)]
 simp[hv]
 congr 1
 omega
theorem depC_setO(p:Nat)(D:Dep)(vo vk:List Value)(hv:vo.length=4)(i:Nat)(hi:i<4)(w:Value)(x:Option Rec):(JG p D vo vk).set (3+i) w=JG p { D with opn:=D.opn.set i x } (vo.set i w) vk:=by
 unfold JG
 rw[qk _ _ (by simp),List.set_append_left _ _ (by simp;omega)]
 simp
theorem Vy(p:Nat)(D:Dep)(vo vk:List Value)(hv:vo.length=4)(hk:vk.length=8):(JG p D vo vk).length=16:=by
 unfold JG;simp[hv,hk]
def fitX(key:List UInt8)(n:Nat)(x:Ext):Prop:=x.head.verify key=0∧13≤x.base∧x.base+x.head.n≤(n:Int)
theorem Dep.Ok.setK{D:Dep}{n:Nat}(h:D.Ok n)(i:Nat)(o:Option Ext)(ho:∀x,o=some x→fitX D.key n x):Dep.Ok { D with kept:=D.kept.set i o } n:=
 ⟨h.opn,by rw[qq];exact h.kept,h.fitO,fun x hx=>by
  rcases qy hx with hx|hx
  ·exact h.fitK x hx
  ·exact ho x hx.symm⟩
theorem Dep.Ok.setO{D:Dep}{n:Nat}(h:D.Ok n)(i:Nat)(o:Option Rec)(ho:∀r,o=some r→fitX D.key n r.x∧(r.got.length:Int)=r.x.head.n):Dep.Ok { D with opn:=D.opn.set i o } n:=
 ⟨by rw[qq];exact h.opn,h.kept,fun x hx=>by
  rcases qy hx with hx|hx
  ·exact h.fitO x hx
  ·obtain⟨⟨a,b,c⟩,d⟩:=ho x hx.symm;exact⟨a,b,c,d⟩,h.fitK⟩
theorem DepAt.turnK{M:Mem}{P p q g:Nat}{d:Dsk}{D:Dep}(h:DepAt M P p q g d D){s:Nat}{vo vk:List Value}(ho:PtrsAt Rec.cells [P,p,q,g] M D.opn vo)(hk:PtrsAt Ext.cells [P,p,q,g] M D.kept vk)
 (hrow:M.get P=some (.cells false s (JG p D vo vk))) (i:Nat) (hi:i<8) (o:Option Ext) (hox:∀x,o=some x→fitX D.key d.old.length x) (w:Value) (hw:PtrTo Ext.cells [P,p,q,g] M o w):
 DepAt (M.set P (some (.cells false s ((JG p D vo vk).set (7+i) w)))) P p q g d { D with kept:=D.kept.set i o }:=by
 have l4:vo.length=4:=by rw[ho.len,h.ok.opn]
 have l8:vk.length=8:=by rw[hk.len,h.ok.kept]
 have hon:Only [P] M (M.set P (some (.cells false s ((JG p D vo vk).set (7+i) w)))):=Only.set (by simp) _
 refine⟨h.dsk.only hon (by simp;exact Ne.symm h.ne.1) (by simp;exact Ne.symm h.ne.2.1) (by simp;exact Ne.symm h.ne.2.2),h.ok.setK i o hox,⟨s,vo,vk.set i w,?_,ho.only hon (by simp),(hk.set i o w hw).only hon (by simp)⟩,h.ne⟩
 rw[Mem.get_set_same hrow,depC_setK p D vo vk l4 l8 i hi w o]
theorem DepAt.turnO{M:Mem}{P p q g:Nat}{d:Dsk}{D:Dep}(h:DepAt M P p q g d D){s:Nat}{vo vk:List Value}(ho:PtrsAt Rec.cells [P,p,q,g] M D.opn vo)(hk:PtrsAt Ext.cells [P,p,q,g] M D.kept vk)
 (hrow:M.get P=some (.cells false s (JG p D vo vk))) (i:Nat) (hi:i<4) (o:Option Rec) (hox:∀r,o=some r→fitX D.key d.old.length r.x∧(r.got.length:Int)=r.x.head.n) (w:Value) (hw:PtrTo Rec.cells [P,p,q,g] M o w):
 DepAt (M.set P (some (.cells false s ((JG p D vo vk).set (3+i) w)))) P p q g d { D with opn:=D.opn.set i o }:=by
 have l4:vo.length=4:=by rw[ho.len,h.ok.opn]
 have hon:Only [P] M (M.set P (some (.cells false s ((JG p D vo vk).set (3+i) w)))):=Only.set (by simp) _
 refine⟨h.dsk.only hon (by simp;exact Ne.symm h.ne.1) (by simp;exact Ne.symm h.ne.2.1) (by simp;exact Ne.symm h.ne.2.2),h.ok.setO i o hox,⟨s,vo.set i w,vk,?_,(ho.set i o w hw).only hon (by simp),hk.only hon (by simp)⟩,h.ne⟩
 rw[Mem.get_set_same hrow,depC_setO p D vo vk l4 i hi w o]
theorem keep_rest{d:Dsk}{D:Dep}{i:Nat}{x:Ext}:Dep.keep d D i x=(if(d.write ((5+i:Nat):Int) (Q6 x)).2≠0 then((d.write ((5+i:Nat):Int) (Q6 x)).1,D,(d.write ((5+i:Nat):Int) (Q6 x)).2)else
 if((d.write ((5+i:Nat):Int) (Q6 x)).1.sync).2≠0 then(((d.write ((5+i:Nat):Int) (Q6 x)).1.sync).1,D,((d.write ((5+i:Nat):Int) (Q6 x)).1.sync).2)else
 (((d.write ((5+i:Nat):Int) (Q6 x)).1.sync).1,{ D with kept:=D.kept.set i (some x) },0)):=rfl
theorem keep_spec(P p q g:Nat)(d:Dsk)(D:Dep)(M:Mem)(h:DepAt M P p q g d D)(i:Nat)(hi:i<8)(x:Ext)(hm:Jz x=true)(hf:fitX D.key d.old.length x):
 Abs.Spec qc 80 [.pointer (some ⟨P,0,none⟩),.int .i64 (i:Nat),.agg x.cells.toArray] M fun u M'=>u=.int .i64 (Dep.keep d D i x).2.2∧DepAt M' P p q g (Dep.keep d D i x).1 (Dep.keep d D i x).2.1∧Only [P,p,q,g] M M'∧M.size≤M'.size:=by
 obtain⟨Z,hZ⟩:∃Z,Z=Dep.keep d D i x:=⟨_,rfl⟩
 rw[←hZ]
 rw[keep_rest]at hZ
 obtain⟨W,hW⟩:∃W,W=d.write ((5+i:Nat):Int) (Q6 x):=⟨_,rfl⟩
 rw[←hW]at hZ
 obtain⟨Y,hY⟩:∃Y,Y=W.1.sync:=⟨_,rfl⟩
 rw[←hY]at hZ
 have hlen:W.1.old.length=d.old.length:=by rw[hW];exact Qw _ _ _
 have hlen2:Y.1.old.length=W.1.old.length:=by rw[hY];exact sync_len _
 refine VE Tryz.func80 Tryz.results80 Tryz.ntmps80 fun hc hx k=>?_
 have bx:QK qc 102 (.agg x.cells.toArray)=some (.cells false (J5 qc 102) x.cells):=UP _ rfl
 generalize J5 qc 102=s1 at bx
 have row8:Jm 8 0 (some (.cells false s1 x.cells))=some (.agg x.cells.toArray):=rfl
 have q00:((0:Int) !=0)=false:=rfl
 obtain⟨M1,hM1⟩:∃M1,M1=M.push (.cells false s1 x.cells):=⟨_,rfl⟩
 obtain⟨b5,hb5⟩:∃b,b=M.size:=⟨_,rfl⟩
 have mo:More M M1:=by rw[hM1];exact More.push _ _
 have hs1:M1.size=M.size+1:=by rw[hM1,Mem.size_push]
 have g1:M1.get b5=some (.cells false s1 x.cells):=by rw[hM1,hb5,Mem.get_push_new]
 have ho1:Only [P,p,q,g] M M1:=fun b x _ hb=>mo.get b x hb
 have nP:b5∉ [P,p,q,g]:=by
  obtain⟨_,_,_,e,_⟩:=h.row
  have l1:=Mem.get_lt e
  obtain⟨_,e⟩:=h.dsk.row
  have l2:=Mem.get_lt e
  have l3:=Mem.get_lt h.dsk.kv
  have l4:=Mem.get_lt h.dsk.old
  simp only[qD,qA,or_false]
  omega
 have h1:=h.same mo.get
 obtain⟨s,vo,vk,hrow,ho,hk⟩:=h1.row
 have c0:∀vo vk,cellIn 0 (some (.cells false s (JG p D vo vk)))=some (dp p):=fun _ _=>rfl
 have erec:extT x=str (Q6 x):=if_pos hm
 have w1:IntKind.i64.wrap (5+(i:Int))=((5+i:Nat):Int):=by rw[XJ (by omega) (by omega)];omega
 have jl:(Q6 x).length≤1000000:=by rw[catText_len hm];decide
 have tail3:∀{M' M'':Mem},Only [p,q,g] M' M''→Only [P,p,q,g] M' M'':=fun h=>h.mono (by simp)
 refine J0 (R1 @bx ?_)
 rw[←hM1,←hb5]
 refine J0 (R2 @g1 @row8 ?_)
 refine K0 (cput_at x _) ?_
 refine J0 (J0 (R4 @hrow @c0 @w1 @erec ?_))
 refine⟨by kernel_rfl,_,XI _ p q g d h1.dsk ((5+i:Nat):Int) (Q6 x) jl,?_⟩
 rintro _ M2 ⟨rfl,hd2,ho2,hs2⟩
 rw[←hW]at hd2 ⊢
 have ho2':Only [p,q,g] M1 M2:=ho2.mono (by simp)
 have h2:=h1.disk hd2 hlen ho2'
 refine S0 ?_
 refine J0 (R0 ?_)
 refine CC (W.2 !=0) (fun hq=>J0 (J1 ?_)) (fun hq=>J6 ?_)
 ·rw[if_pos (by simpa using hq)]at hZ
  refine S0 ?_
  refine T0 ?_
  subst hZ
  exact⟨_,Thin.refl _,rfl,h2,ho1.trans (tail3 ho2'),by omega⟩
 rw[if_neg (by simpa using hq)]at hZ
 obtain⟨s2,vo2,vk2,hrow2,ho2r,hk2⟩:=h2.row
 have c02:cellIn 0 (some (.cells false s2 (JG p D vo2 vk2)))=some (dp p):=rfl
 simp only[zZ,reduceIte,yQ,yW,yX,yZ,yJ,yK,yV]
 refine J0 (J0 (R2 @hrow2 @c02 ?_))
 refine⟨by kernel_rfl,_,sync_spec _ p q g W.1 h2.dsk,?_⟩
 rintro _ M3 ⟨rfl,hd3,ho3,hs3⟩
 rw[←hY]at hd3 ⊢
 have h3:=h2.disk hd3 hlen2 ho3
 refine S0 ?_
 refine J0 (R0 ?_)
 refine CC (Y.2 !=0) (fun hq=>J0 (J1 ?_)) (fun hq=>J6 ?_)
 ·rw[if_pos (by simpa using hq)]at hZ
  refine S0 ?_
  refine T0 ?_
  subst hZ
  exact⟨_,Thin.refl _,rfl,h3,(ho1.trans (tail3 ho2')).trans (tail3 ho3),by omega⟩
 rw[if_neg (by simpa using hq)]at hZ
 obtain⟨s3,vo3,vk3,hrow3,ho3r,hk3⟩:=h3.row
 have l4:vo3.length=4:=by rw[ho3r.len,h3.ok.opn]
 have l8:vk3.length=8:=by rw[hk3.len,h3.ok.kept]
 have ln:=Vy p D vo3 vk3 l4 l8
 have z0:(0:Int)≤(i:Int):=by omega
 have z8:(i:Int)<((8:Nat):Int):=by omega
 have z8':(i:Int)<8:=by omega
 have hput:Jk 1 M3 P (7+i) [.pointer (some ⟨b5,0,none⟩)] (some (.cells false s3 (JG p D vo3 vk3)))=some (M3.set P (some (.cells false s3 ((JG p D vo3 vk3).set (7+i) (.pointer (some ⟨b5,0,none⟩)))))):=by
  simp only[Jk]
  rw[if_pos ⟨rfl,by show 7+i+1≤(JG p D vo3 vk3).length;omega,rfl⟩]
  rfl
 have g53:M3.get b5=some (.cells false s1 x.cells):=ho3 _ _ (by simp at nP ⊢;exact nP.2) (ho2' _ _ (by simp at nP ⊢;exact nP.2) g1)
 have hfin:=h3.turnK ho3r hk3 hrow3 i hi (some x) (fun y hy=>by cases hy;rw[hlen2,hlen];exact hf) (.pointer (some ⟨b5,0,none⟩)) ⟨b5,s1,nP,rfl,g53⟩
 have hon:Only [P,p,q,g] M3 (M3.set P (some (.cells false s3 ((JG p D vo3 vk3).set (7+i) (.pointer (some ⟨b5,0,none⟩)))))):=Only.set (by simp) _
 simp only[zZ,reduceIte,yQ,yW,yX,yZ,yJ,yK,yV]
 refine J0 (R7 @hrow3 @z0 @z8 @z8' @and_self @qh @hput ?_)
 refine J0 (R0 ?_)
 refine T0 ?_
 subst hZ
 exact⟨_,Thin.refl _,rfl,hfin,((ho1.trans (tail3 ho2')).trans (tail3 ho3)).trans hon,by rw[Mem.size_set];omega⟩
theorem abort_none(id:Int)(M:Mem):
 Abs.Spec qc 26 [.pointer none,.int .i64 id] M fun u M'=>u=.int .i64 8∧More M M':=by
 refine VE Tryz.func26 Tryz.results26 Tryz.ntmps26 fun hc hx k=>?_
 have q1:decide ((-1:Int)<0)=true:=rfl
 refine J0 (R0 ?_)
 refine J0 (R0 ?_)
 refine⟨by kernel_rfl,_,Uk id M,?_⟩
 rintro _ M1 ⟨rfl,mo⟩
 refine S0 ?_
 refine J0 (J0 (R0 ?_))
 refine CF (J6 ?_)
 simp only[zZ,reduceIte,yQ,yW,yX,yZ,yJ,yK,yV]
 refine J0 (J0 (R1 @q1 ?_))
 refine CT (J0 (R0 ?_))
 refine T0 ?_
 exact⟨_,Thin.refl _,mo⟩
theorem depC_setS(p:Nat)(D:Dep)(vo vk:List Value)(hv:vo.length=4)(hk:vk.length=8)(n:Int):(JG p D vo vk).set 15 (.int .i64 n)=JG p { D with staged:=n } vo vk:=by
 unfold JG
 rw[qk _ _ (by simp),qk _ _ (by simp;omega),qk _ _ (by simp;omega)]
 simp[hv,hk]
theorem DepAt.turnS{M:Mem}{P p q g:Nat}{d:Dsk}{D:Dep}(h:DepAt M P p q g d D){s:Nat}{vo vk:List Value}(ho:PtrsAt Rec.cells [P,p,q,g] M D.opn vo)(hk:PtrsAt Ext.cells [P,p,q,g] M D.kept vk)
 (hrow:M.get P=some (.cells false s (JG p D vo vk))) (n:Int):
 DepAt (M.set P (some (.cells false s ((JG p D vo vk).set 15 (.int .i64 n))))) P p q g d { D with staged:=n }:=by
 have l4:vo.length=4:=by rw[ho.len,h.ok.opn]
 have l8:vk.length=8:=by rw[hk.len,h.ok.kept]
 have hon:Only [P] M (M.set P (some (.cells false s ((JG p D vo vk).set 15 (.int .i64 n))))):=Only.set (by simp) _
 refine⟨h.dsk.only hon (by simp;exact Ne.symm h.ne.1) (by simp;exact Ne.symm h.ne.2.1) (by simp;exact Ne.symm h.ne.2.2),⟨h.ok.opn,h.ok.kept,h.ok.fitO,h.ok.fitK⟩,⟨s,vo,vk,?_,ho.only hon (by simp),hk.only hon (by simp)⟩,h.ne⟩
 rw[Mem.get_set_same hrow,depC_setS p D vo vk l4 l8]
def NoPt(M:Mem)(P b:Nat):Prop:=∀i,cellIn i (M.get P)≠some (.pointer (some ⟨b,0,none⟩))
theorem PtrsAt.ne{α:Type}{enc:α→List Value}{K:List Nat}{M:Mem}{l:List (Option α)}{vs:List Value}(h:PtrsAt enc K M l vs){b:Nat}(hb:M.size≤b):Value.pointer (some ⟨b,0,none⟩)∉vs:=by
 intro hm
 obtain⟨i,hi,e⟩:=List.getElem_of_mem hm
 have hil:i<l.length:=by rw[←h.len];exact hi
 obtain⟨v,hv,hp⟩:=h.at_ i _ (qf hil)
 rw[qf hi,e]at hv
 cases hv
 cases ho:l[i]with
 |none=>rw[ho]at hp;cases hp
 |some a=>
  rw[ho]at hp
  obtain⟨b',s,_,e2,hg⟩:=hp
  cases e2
  have:=Mem.get_lt hg
  omega
theorem DepAt.noPt{M:Mem}{P p q g:Nat}{d:Dsk}{D:Dep}(h:DepAt M P p q g d D){b:Nat}(hb:M.size≤b):NoPt M P b:=by
 obtain⟨s,vo,vk,hrow,ho,hk⟩:=h.row
 intro i hi
 rw[hrow]at hi
 have hi:(JG p D vo vk)[i]?=some (.pointer (some ⟨b,0,none⟩)):=hi
 have hm:=qw hi
 unfold JG at hm
 obtain⟨_,e⟩:=h.dsk.row
 have lp:=Mem.get_lt e
 have n1:=ho.ne hb
 have n2:=hk.ne hb
 simp only[List.mem_append,qD,qA,or_false,n1,n2,false_or,or_self]at hm
 rcases hm with(hm|hm|hm)|hm
 ·cases hm;omega
 ·cases hm
 ·cases hm
 ·cases hm
theorem NoPt.same{M M':Mem}{P b:Nat}(h:NoPt M P b)(hs:M'.get P=M.get P):NoPt M' P b:=by
 intro i;rw[hs];exact h i
theorem DepAt.off{M:Mem}{P p q g:Nat}{d:Dsk}{D:Dep}(h:DepAt M P p q g d D){b:Nat}(hb:b∉ [P,p,q,g])(hn:NoPt M P b)(o:Option Blk):DepAt (M.set b o) P p q g d D:=by
 obtain⟨s,vo,vk,hrow,ho,hk⟩:=h.row
 have l4:vo.length=4:=by rw[ho.len,h.ok.opn]
 have l8:vk.length=8:=by rw[hk.len,h.ok.kept]
 have on:Only [b] M (M.set b o):=Only.set (by simp) _
 simp only[qD,qA,or_false,not_or]at hb
 refine⟨h.dsk.only on (by simp;exact Ne.symm hb.2.1) (by simp;exact Ne.symm hb.2.2.1) (by simp;exact Ne.symm hb.2.2.2),h.ok,⟨s,vo,vk,on _ _ (by simp;exact Ne.symm hb.1) hrow,⟨ho.len,fun i oo hi=>?_⟩,⟨hk.len,fun i oo hi=>?_⟩⟩,h.ne⟩
 ·obtain⟨v,hv,hp⟩:=ho.at_ i oo hi
  refine⟨v,hv,?_⟩
  cases oo with
  |none=>exact hp
  |some a=>
   obtain⟨b',s',hK,rfl,hg⟩:=hp
   have hil:=(qe.1 hv).1
   have hne:b'≠b:=fun e=>hn (3+i) (by
    rw[hrow]
    show(JG p D vo vk)[3+i]?=_
    rw[depC_opn _ _ _ _ l4 _ (by omega),hv,e])
   exact⟨b',s',hK,rfl,on _ _ (by simp;exact hne) hg⟩
 ·obtain⟨v,hv,hp⟩:=hk.at_ i oo hi
  refine⟨v,hv,?_⟩
  cases oo with
  |none=>exact hp
  |some a=>
   obtain⟨b',s',hK,rfl,hg⟩:=hp
   have hil:=(qe.1 hv).1
   have hne:b'≠b:=fun e=>hn (7+i) (by
    rw[hrow]
    show(JG p D vo vk)[7+i]?=_
    rw[depC_kept _ _ _ _ l4 l8 _ (by omega),hv,e])
   exact⟨b',s',hK,rfl,on _ _ (by simp;exact hne) hg⟩
theorem stage_rest{d:Dsk}{D:Dep}{k:Nat}{r:Rec}{i:Int}{s:List UInt8}{W Y U:Dsk×Int}(hW:W=d.write (r.x.base+i) s)(hY:Y=W.1.sync)(hU:U=Y.1.write ((1+k:Nat):Int) (QD { r with got:=r.got.set i.toNat true })):
 Dep.staged1 d D k r i s=(if W.2≠0 then(W.1,D,W.2)else if Y.2≠0 then(Y.1,{ D with staged:=D.staged+1 },Y.2)else if U.2≠0 then(U.1,{ D with staged:=D.staged+1 },U.2)else
  (U.1,{ D with staged:=D.staged+1,opn:=D.opn.set k (some { r with got:=r.got.set i.toNat true }) },0)):=by
 subst hW hY hU;rfl
theorem stage_spec(P p q g:Nat)(d:Dsk)(D:Dep)(id i:Int)(t:List UInt8)(ht:t.length≤1000000)(hst: -1000000≤D.staged∧D.staged≤1000000000)(M:Mem)(h:DepAt M P p q g d D):
 Abs.Spec qc 24 [.pointer (some ⟨P,0,none⟩),.int .i64 id,.int .i64 i,.string (str t)] M fun u M'=>u=.int .i64 (Dep.stage d D id i t).2.2∧DepAt M' P p q g (Dep.stage d D id i t).1 (Dep.stage d D id i t).2.1∧Only [P,p,q,g] M M'∧M.size≤M'.size:=by
 obtain⟨Z,hZ⟩:∃Z,Z=Dep.stage d D id i t:=⟨_,rfl⟩
 rw[←hZ]
 unfold Dep.stage at hZ
 refine VE Tryz.func24 Tryz.results24 Tryz.ntmps24 fun hc hx k=>?_
 have hal:Q0 qc 132=some (.cells false (J5 qc 132) noRec.cells):=al_Rec
 generalize J5 qc 132=s1 at hal
 have row13:∀(s:Nat)(x:Rec),Jm 13 0 (some (.cells false s x.cells))=some (.agg x.cells.toArray):=fun _ _=>rfl
 have rowS:∀(s:Nat)(x:Rec),Jm 5 8 (some (.cells false s x.cells))=some (QI x.got):=fun _ _=>rfl
 have k2:∀(s:Nat)(x:Rec),cellIn 2 (some (.cells false s x.cells))=some (.int .i64 x.x.head.n):=fun _ _=>rfl
 have k7:∀(s:Nat)(x:Rec),cellIn 7 (some (.cells false s x.cells))=some (.int .i64 x.x.base):=fun _ _=>rfl
 have agg13:∀x:Rec,(Value.agg x.cells.toArray).cells.toList=x.cells:=fun _=>rfl
 have agg5:∀l,(QI l).cells.toList=setCells l:=fun _=>rfl
 have put13:∀(M0:Mem)(b:Nat)(x y:Rec),Jk 13 M0 b 0 y.cells (some (.cells false s1 x.cells))=some (M0.set b (some (.cells false s1 y.cells))):=fun _ _ _ _=>rfl
 have putS:∀(M0:Mem)(b:Nat)(x:Rec)(l:List Bool),Jk 5 M0 b 8 (setCells l) (some (.cells false s1 x.cells))=some (M0.set b (some (.cells false s1 ({ x with got:=l }:Rec).cells))):=fun _ _ _ _=>rfl
 have hbt:Jy (str t)=t.length:=rfl
 refine J0 (R0 ?_)
 refine J0 (R0 ?_)
 refine⟨by kernel_rfl,_,find_spec P p q g d D id M h,?_⟩
 rintro _ M1 ⟨rfl,mo⟩
 have ho1:Only [P,p,q,g] M M1:=fun b x _ hb=>mo.get b x hb
 have hs1:=mo.size
 have h1:=h.same mo.get
 obtain⟨s,vo,vk,hrow,ho,hk⟩:=h1.row
 have c0:cellIn 0 (some (.cells false s (JG p D vo vk)))=some (dp p):=rfl
 have tail3:∀{M' M'':Mem},Only [p,q,g] M' M''→Only [P,p,q,g] M' M'':=fun h=>h.mono (by simp)
 refine S0 ?_
 refine J0 (Ja (J0 (R2 @hrow @c0 ?_)))
 refine K0 (dead_spec _ p q g d h1.dsk) ?_
 cases hdd:d.dead with
 |true=>
  rw[if_pos hdd]at hZ
  refine CT (J0 (R0 ?_))
  refine T0 ?_
  subst hZ
  exact⟨_,Thin.refl _,rfl,h1,ho1,hs1⟩
 |false=>
 rw[if_neg (by rw[hdd];decide)]at hZ
 refine CF (?_)
 cases hD:D.rec? id with
 |none=>
  rw[hD]at hZ
  have q1:decide ((-1:Int)<0)=true:=rfl
  simp only[Xm]
  refine J0 (R1 @q1 ?_)
  refine CT (J0 (R0 ?_))
  refine T0 ?_
  subst hZ
  exact⟨_,Thin.refl _,rfl,h1,ho1,hs1⟩
 |some y=>
 obtain⟨j,r⟩:=y
 rw[hD]at hZ
 simp only at hZ
 obtain⟨hj,b,s',r1,hbK,gb⟩:=h1.recAt (X3 hD).1
 obtain⟨fv,fb0,fb1,fgl⟩:=h1.ok.fitO r (qw (X3 hD).1)
 have hn2:=Uc (r.x.head.check_zero.1 (by
  unfold Header.verify at fv
  split at fv
  ·exact absurd fv (by decide)
  ·rename_i h1
   exact(ZR _).resolve_right h1))
 have hdn:=h1.dsk.ok.n
 have q1:decide ((j:Int)<0)=false:=decide_eq_false (by omega)
 have z0:(0:Int)≤(j:Int):=by omega
 have z8:(j:Int)<((4:Nat):Int):=by omega
 have z8':(j:Int)<4:=by omega
 rw[hrow]at r1
 simp only[Xl]
 refine J0 (R1 @q1 ?_)
 refine CF (J0 (J1 ?_))
 cases p1:decide (i<0)with
 |true=>
  have hi:=of_decide_eq_true p1
  rw[if_pos (.inl hi)]at hZ
  refine S1 @p1 ?_
  refine CT (J0 (R0 ?_))
  refine T0 ?_
  subst hZ
  exact⟨_,Thin.refl _,rfl,h1,ho1,hs1⟩
 |false=>
 have hi0:=of_decide_eq_false p1
 simp only[zZ,reduceIte,yQ,yW,yX,yZ,yJ,yK,yV,zDk,Jc,Jd,J9,J8,Zy,p1,z0,z8,z8',and_self,qh,hrow,r1,gb,k2]
 refine CC (decide (i≥r.x.head.n)) (fun hq=>J0 (J1 ?_)) (fun hq=>J0 (J1 ?_))
 ·rw[if_pos (.inr (of_decide_eq_true hq))]at hZ
  refine S0 ?_
  refine T0 ?_
  subst hZ
  exact⟨_,Thin.refl _,rfl,h1,ho1,hs1⟩
 have hin:¬r.x.head.n≤i:=of_decide_eq_false hq
 rw[if_neg (by omega)]at hZ
 refine S1 @hbt ?_
 refine CC (((t.length:Nat):Int) !=224) (fun hq=>J0 (J1 ?_)) (fun hq=>J6 ?_)
 ·have hq':t.length≠224:=by simp at hq;omega
  rw[if_pos hq']at hZ
  refine S0 ?_
  refine T0 ?_
  subst hZ
  exact⟨_,Thin.refl _,rfl,h1,ho1,hs1⟩
 have hq':¬t.length≠224:=by simp at hq;omega
 rw[if_neg hq']at hZ
 have zw:IntKind.i64.wrap (r.x.base+i)=r.x.base+i:=XJ (by omega) (by omega)
 have gl:r.got.length≤256:=by omega
 have ehas:hasV r.got i=r.got.getD i.toNat false:=by unfold hasV;rw[decide_eq_true (by omega),Bool.true_and]
 have ewith:U6 r.got i=r.got.set i.toNat true:=by unfold U6;rw[if_pos (by omega)]
 simp only[zZ,reduceIte,yQ,yW,yX,yZ,yJ,yK,yV]
 refine J0 (J1 ?_)
 simp only[zZ,reduceIte,yQ,yW,yX,yZ,yJ,yK,yV,zDk,Jc,Jd,J9,J8,Zy,z0,z8,z8',and_self,qh,hrow,r1,gb,row13,hal,Mem.get_push_new,agg13,put13]
 obtain⟨b11,hb11⟩:∃b,b=M1.size:=⟨_,rfl⟩
 obtain⟨M2,hM2⟩:∃M2,M2=(M1.push (.cells false s1 noRec.cells)).set M1.size (some (.cells false s1 r.cells)):=⟨_,rfl⟩
 rw[←hM2,←hb11]
 have g11:M2.get b11=some (.cells false s1 r.cells):=by rw[hM2,hb11];exact Mem.get_set_same (Mem.get_push_new _ _) _
 have mo2:More M1 M2:=⟨fun b x hb=>by
  have:=Mem.get_lt hb
  rw[hM2,Mem.get_set_ne (by omega),Mem.get_push_old this];exact hb,by rw[hM2,Mem.size_set,Mem.size_push];omega⟩
 have hs2:=mo2.size
 have ho2:Only [P,p,q,g] M M2:=fun b x hb hx=>mo2.get b x (ho1 b x hb hx)
 have h2:=h1.same mo2.get
 have hrow2:=mo2.get _ _ hrow
 have n11:b11∉ [P,p,q,g]:=by
  have l1:=Mem.get_lt hrow
  obtain⟨_,e⟩:=h1.dsk.row
  have l2:=Mem.get_lt e
  have l3:=Mem.get_lt h1.dsk.kv
  have l4:=Mem.get_lt h1.dsk.old
  simp only[qD,qA,or_false]
  omega
 have n11':b11∉ [p,q,g]:=fun h=>n11 (by simp at h ⊢;exact .inr h)
 have has:=fun m=>has_at r.got gl i m
 rw[ehas]at has
 refine J0 (J0 (R2 @g11 @rowS ?_))
 refine K0 (has _) ?_
 refine CC (r.got.getD i.toNat false) (fun hq=>J0 (J1 ?_)) (fun hq=>J6 ?_)
 ·rw[if_pos hq]at hZ
  refine S0 ?_
  refine T0 ?_
  subst hZ
  exact⟨_,Thin.refl _,rfl,h2,ho2,by omega⟩
 rw[if_neg (by rw[hq];decide)]at hZ
 obtain⟨W,hW⟩:∃W,W=d.write (r.x.base+i) t:=⟨_,rfl⟩
 obtain⟨Y,hY⟩:∃Y,Y=W.1.sync:=⟨_,rfl⟩
 obtain⟨U,hU⟩:∃U,U=Y.1.write ((1+j:Nat):Int) (QD { r with got:=r.got.set i.toNat true }):=⟨_,rfl⟩
 rw[stage_rest hW hY hU]at hZ
 have hlen:W.1.old.length=d.old.length:=by rw[hW];exact Qw _ _ _
 have hlen2:Y.1.old.length=W.1.old.length:=by rw[hY];exact sync_len _
 have ws:=XI M2 p q g d h2.dsk (r.x.base+i) t ht
 rw[←hW]at ws
 simp only[zZ,reduceIte,yQ,yW,yX,yZ,yJ,yK,yV]
 refine J0 (J0 (D5 10 @hrow2 @c0 @g11 @k7 @zw ?_))
 refine⟨by kernel_rfl,_,ws,?_⟩
 rintro _ M3 ⟨rfl,hd3,ho3,hs3⟩
 have ho3':Only [p,q,g] M2 M3:=ho3.mono (by simp)
 have h3:=h2.disk hd3 hlen ho3'
 have g113:=ho3' _ _ n11' g11
 have o3:=ho2.trans (tail3 ho3')
 refine S0 ?_
 refine J0 (R0 ?_)
 refine CC (W.2 !=0) (fun hq=>J0 (J1 ?_)) (fun hq=>J6 ?_)
 ·rw[if_pos (by simpa using hq)]at hZ
  refine S0 ?_
  refine T0 ?_
  subst hZ
  exact⟨_,Thin.refl _,rfl,h3,o3,by omega⟩
 rw[if_neg (by simpa using hq)]at hZ
 obtain⟨s3,vo3,vk3,hrow3,ho3r,hk3⟩:=h3.row
 have l43:vo3.length=4:=by rw[ho3r.len,h3.ok.opn]
 have l83:vk3.length=8:=by rw[hk3.len,h3.ok.kept]
 have ln3:=Vy p D vo3 vk3 l43 l83
 have c15:cellIn 15 (some (.cells false s3 (JG p D vo3 vk3)))=some (.int .i64 D.staged):=depC_staged p D vo3 vk3 l43 l83
 have ws1:IntKind.i64.wrap (D.staged+1)=D.staged+1:=XJ (by omega) (by omega)
 have hputS:Jk 1 M3 P 15 [.int .i64 (D.staged+1)] (some (.cells false s3 (JG p D vo3 vk3)))=some (M3.set P (some (.cells false s3 ((JG p D vo3 vk3).set 15 (.int .i64 (D.staged+1)))))):=by
  simp only[Jk]
  rw[if_pos ⟨rfl,by show 15+1≤(JG p D vo3 vk3).length;omega,rfl⟩]
  rfl
 have h4:=h3.turnS ho3r hk3 hrow3 (D.staged+1)
 simp only[zZ,reduceIte,yQ,yW,yX,yZ,yJ,yK,yV]
 refine J0 (R4 @hrow3 @c15 @ws1 @hputS ?_)
 obtain⟨M4,hM4⟩:∃M4,M4=M3.set P (some (.cells false s3 ((JG p D vo3 vk3).set 15 (.int .i64 (D.staged+1))))):=⟨_,rfl⟩
 have on4:Only [P,p,q,g] M3 M4:=by rw[hM4];exact Only.set (by simp) _
 have hs4:M4.size=M3.size:=by rw[hM4,Mem.size_set]
 rw[←hM4]at h4 ⊢
 have o4:=o3.trans on4
 have g114:=on4 _ _ n11 g113
 obtain⟨D1,hD1⟩:∃D1,D1=({ D with staged:=D.staged+1 }:Dep):=⟨_,rfl⟩
 rw[←hD1]at h4
 obtain⟨s4,vo4,vk4,hrow4,ho4r,hk4⟩:=h4.row
 have c04:cellIn 0 (some (.cells false s4 (JG p D1 vo4 vk4)))=some (dp p):=rfl
 refine J0 (J0 (R2 @hrow4 @c04 ?_))
 refine⟨by kernel_rfl,_,sync_spec _ p q g W.1 h4.dsk,?_⟩
 rintro _ M5 ⟨rfl,hd5,ho5,hs5⟩
 rw[←hY]at hd5 ⊢
 have h5:=h4.disk hd5 hlen2 ho5
 have g115:=ho5 _ _ n11' g114
 have o5:=o4.trans (tail3 ho5)
 refine S0 ?_
 refine J0 (R0 ?_)
 refine CC (Y.2 !=0) (fun hq=>J0 (J1 ?_)) (fun hq=>J6 ?_)
 ·rw[if_pos (by simpa using hq),←hD1]at hZ
  refine S0 ?_
  refine T0 ?_
  subst hZ
  exact⟨_,Thin.refl _,rfl,h5,o5,by omega⟩
 rw[if_neg (by simpa using hq)]at hZ
 obtain⟨r',hr'⟩:∃r',r'=({ r with got:=r.got.set i.toNat true }:Rec):=⟨_,rfl⟩
 rw[←hr']at hU hZ
 have fitr:fitX D1.key Y.1.old.length r'.x:=by rw[hr',hD1,hlen2,hlen];exact⟨fv,fb0,fb1⟩
 have gotr:(r'.got.length:Int)=r'.x.head.n:=by rw[hr'];show((r.got.set i.toNat true).length:Int)=_;rw[qq];exact fgl
 have mayr:r'.may=true:=by
  unfold Rec.may
  rw[decide_eq_true gotr,Bool.and_true]
  rw[hr']
  show Jz r.x=true
  have hchk:=(r.x.head.check_zero.2 ?_:r.x.head.check=0)
  ·unfold Jz Header.may
   rw[decide_eq_true hchk,decide_eq_true (by omega:(0:Int)≤r.x.base),decide_eq_true (by omega:r.x.base≤1024-r.x.head.n)]
   rfl
  ·refine r.x.head.check_zero.1 ?_
   unfold Header.verify at fv
   split at fv
   ·exact absurd fv (by decide)
   ·rename_i h1
    exact(ZR _).resolve_right h1
 have wth:=fun m=>with_at r.got gl i m
 rw[ewith]at wth
 have hput5:Jk 5 M5 b11 8 (setCells (r.got.set i.toNat true)) (some (.cells false s1 r.cells))=some (M5.set b11 (some (.cells false s1 r'.cells))):=by rw[hr'];exact putS M5 b11 r _
 simp only[zZ,reduceIte,yQ,yW,yX,yZ,yJ,yK,yV]
 refine J0 (R2 @g115 @rowS ?_)
 refine K3 @g115 @agg5 @hput5 (wth _) ?_
 obtain⟨M6,hM6⟩:∃M6,M6=M5.set b11 (some (.cells false s1 r'.cells)):=⟨_,rfl⟩
 rw[←hM6]
 have np1:NoPt M1 P b11:=h1.noPt (by omega)
 have np2:NoPt M2 P b11:=np1.same (by rw[hrow2,hrow])
 have hrow3':=ho3' _ _ (by simp;exact h.ne) hrow2
 have np3:NoPt M3 P b11:=np2.same (by rw[hrow2,hrow3'])
 have np4:NoPt M4 P b11:=by
  intro n hn
  rw[hM4,Mem.get_set_same hrow3]at hn
  have hn:((JG p D vo3 vk3).set 15 (.int .i64 (D.staged+1)))[n]?=some (.pointer (some ⟨b11,0,none⟩)):=hn
  by_cases e:15=n
  ·subst e
   rw[qp (by omega)]at hn
   cases hn
  ·rw[qo e]at hn
   exact np3 n (by rw[hrow3];exact hn)
 have hrow5':=ho5 _ _ (by simp;exact h.ne) hrow4
 have np5:NoPt M5 P b11:=np4.same (by rw[hrow4,hrow5'])
 have h6:=h5.off n11 np5 (some (.cells false s1 r'.cells))
 rw[←hM6]at h6
 have g116:M6.get b11=some (.cells false s1 r'.cells):=by rw[hM6];exact Mem.get_set_same g115 _
 have hb11:M.size≤b11:=by omega
 have o6:Only [P,p,q,g] M M6:=fun b x hb hx=>by
  have:=Mem.get_lt hx
  rw[hM6,Mem.get_set_ne (by omega)]
  exact o5 b x hb hx
 have hs6:M6.size=M5.size:=by rw[hM6,Mem.size_set]
 have ns:=note_spec P p q g Y.1 D1 M6 h6 j hj r' mayr
 rw[←hU]at ns
 refine J0 (J0 (R2 @g116 @row13 ?_))
 refine⟨by kernel_rfl,_,ns,?_⟩
 rintro _ M7 ⟨rfl,h7,ho7,hs7⟩
 have g117:=ho7 _ _ n11' g116
 have o7:=o6.trans (tail3 ho7)
 have hlen3:U.1.old.length=Y.1.old.length:=by rw[hU];exact Qw _ _ _
 refine S0 ?_
 refine J0 (R0 ?_)
 refine CC (U.2 !=0) (fun hq=>J0 (J1 ?_)) (fun hq=>J6 ?_)
 ·rw[if_pos (by simpa using hq),←hD1]at hZ
  refine S0 ?_
  refine T0 ?_
  subst hZ
  exact⟨_,Thin.refl _,rfl,h7,o7,by omega⟩
 rw[if_neg (by simpa using hq)]at hZ
 obtain⟨s7,vo7,vk7,hrow7,ho7r,hk7⟩:=h7.row
 have l47:vo7.length=4:=by rw[ho7r.len,h7.ok.opn]
 have l87:vk7.length=8:=by rw[hk7.len,h7.ok.kept]
 have ln7:=Vy p D1 vo7 vk7 l47 l87
 have hput:Jk 1 M7 P (3+j) [.pointer (some ⟨b11,0,none⟩)] (some (.cells false s7 (JG p D1 vo7 vk7)))=some (M7.set P (some (.cells false s7 ((JG p D1 vo7 vk7).set (3+j) (.pointer (some ⟨b11,0,none⟩)))))):=by
  simp only[Jk]
  rw[if_pos ⟨rfl,by show 3+j+1≤(JG p D1 vo7 vk7).length;omega,rfl⟩]
  rfl
 have hfin:=h7.turnO ho7r hk7 hrow7 j hj (some r') (fun y hy=>by cases hy;exact⟨by rw[hlen3];exact fitr,gotr⟩) (.pointer (some ⟨b11,0,none⟩)) ⟨b11,s1,n11,rfl,g117⟩
 have hon:Only [P,p,q,g] M7 (M7.set P (some (.cells false s7 ((JG p D1 vo7 vk7).set (3+j) (.pointer (some ⟨b11,0,none⟩)))))):=Only.set (by simp) _
 simp only[zZ,reduceIte,yQ,yW,yX,yZ,yJ,yK,yV]
 refine J0 (R7 @hrow7 @z0 @z8 @z8' @and_self @qh @hput ?_)
 refine J0 (R0 ?_)
 refine T0 ?_
 subst hZ
 subst hD1
 exact⟨_,Thin.refl _,rfl,hfin,o7.trans hon,by rw[Mem.size_set];omega⟩
section
variable {P : Program} {t tx e : TypeId} {i : TypeInfo} {z : Value} {N : Nat}
theorem gapp(hu:P.underlying t=some (.slice e))(hi:P.info? e=some i)(hz:i.zero=some z)(hs:i.size=N)(hzc:z.cells.toList.length=N)(m:Mem){x:Value}{k n g:Nat}{cs news:List Value}
 (hsrc:aSrc P m tx N x=some (k,news)) (hk:k≠0) (hg:m.get g=some (.cells false N cs)) (hn:cs.length=n*N) (hb:(n+k)*i.bytes≤140737488355328) (hb2:n+k≤140737488355328):
 JN P m t tx (.slice (some ⟨g,0,none⟩) n n) x=some (.slice (some ⟨m.size,0,none⟩) (n+k) (n+k),(m.set g none).push (.cells false N (cs++news))):=by
 unfold JN
 simp only[hu,hi,hz,hs,hzc,if_true,hsrc,if_neg hk,hg]
 rw[if_neg (by omega),if_pos ⟨by omega,trivial,hb,hb2⟩,List.drop_zero,←hn,List.take_length]
theorem gapp_nil(hu:P.underlying t=some (.slice e))(hi:P.info? e=some i)(hz:i.zero=some z)(hs:i.size=N)(hzc:z.cells.toList.length=N)(m:Mem){x:Value}{k:Nat}{news:List Value}
 (hsrc:aSrc P m tx N x=some (k,news)) (hk:k≠0) (hb:k*i.bytes≤140737488355328) (hb2:k≤140737488355328):
 JN P m t tx (.slice none 0 0) x=some (.slice (some ⟨m.size,0,none⟩) k k,m.push (.cells false N news)):=by
 unfold JN
 simp only[hu,hi,hz,hs,hzc,if_true,hsrc,if_neg hk]
 rw[if_pos ⟨hb,hb2⟩]
end
def ZT:Value→Option Nat
 |.slice (some a) _ _=>some a.block
 |_=>none
section
variable {α : Type} (enc : α → List Value) (N : Nat)
def OwnL(k:Nat)(M:Mem)(V:Value)(L:List α):Prop:=(L=[]∧V=.slice none 0 0)∨(L≠ []∧∃g,k≤g∧V=.slice (some ⟨g,0,none⟩) L.length L.length∧M.get g=some (.cells false N (L.flatMap enc)))
variable {enc N}
theorem OwnL.nil(k:Nat)(M:Mem):OwnL enc N k M (.slice none 0 0) []:=.inl ⟨rfl,rfl⟩
theorem OwnL.len{k:Nat}{M:Mem}{V:Value}{L:List α}(h:OwnL enc N k M V L):∃a c,V=.slice a L.length c:=by
 rcases h with⟨rfl,rfl⟩|⟨_,g,_,rfl,_⟩
 ·exact⟨none,0,rfl⟩
 ·exact⟨_,_,rfl⟩
theorem OwnL.same{k:Nat}{M M':Mem}{V:Value}{L:List α}(h:OwnL enc N k M V L)(hs:∀b x,ZT V=some b→M.get b=some x→M'.get b=some x):OwnL enc N k M' V L:=by
 rcases h with h|⟨h0,g,hk,rfl,hg⟩
 ·exact .inl h
 ·exact .inr ⟨h0,g,hk,rfl,hs g _ rfl hg⟩
theorem OwnL.live{k:Nat}{M:Mem}{V:Value}{L:List α}(h:OwnL enc N k M V L){b:Nat}(hb:ZT V=some b):k≤b∧b<M.size:=by
 rcases h with⟨_,rfl⟩|⟨h0,g,hk,rfl,hg⟩
 ·cases hb
 ·cases hb;exact⟨hk,Mem.get_lt hg⟩
theorem OwnL.at{k:Nat}{M:Mem}{a:Option Addr}{n c:Nat}{L:List α}(h:OwnL enc N k M (.slice a n c) L){i:Nat}{x:α}(hx:L[i]?=some x):∃g,a=some ⟨g,0,none⟩∧k≤g∧M.get g=some (.cells false N (L.flatMap enc)):=by
 rcases h with⟨h1,_⟩|⟨h1,g,h2,h3,h4⟩
 ·rw[h1]at hx;cases hx
 ·cases h3;exact⟨g,rfl,h2,h4⟩
theorem OwnL.le{k k':Nat}{M:Mem}{V:Value}{L:List α}(h:OwnL enc N k M V L)(hk:k'≤k):OwnL enc N k' M V L:=by
 rcases h with h|⟨h0,g,h1,h2⟩
 ·exact .inl h
 ·exact .inr ⟨h0,g,by omega,h2⟩
theorem flat_length(henc:∀a,(enc a).length=N)(L:List α):(L.flatMap enc).length=L.length*N:=by
 induction L with
 |nil=>simp
 |cons a L ih=>rw[List.flatMap_cons,qn,henc,ih,List.length_cons,Nat.succ_mul];omega
variable {P : Program} {t tx e d : TypeId} {i : TypeInfo} {z : Value}
theorem oapp(hu:P.underlying t=some (.slice e))(hi:P.info? e=some i)(hz:i.zero=some z)(hs:i.size=N)(hzc:z.cells.toList.length=N)(hx:P.underlying tx=some (.slice d))(henc:∀a,(enc a).length=N)(hby:i.bytes≤1000)
 {k:Nat} {M:Mem} {V:Value} {L:List α} (h:OwnL enc N k M V L) (hk:k≤M.size) (hl:L.length≤1000000) (x:α) (sn:Nat):
 ∃M' V',JN P (M.push (.cells false sn (enc x))) t tx V (.slice (some ⟨M.size,0,none⟩) 1 1)=some (V',M')∧ZT V'=some (M.size+1)∧OwnL enc N k M' V' (L++[x])∧
  M'.size=M.size+2∧(∀b y,ZT V≠some b→M.get b=some y→M'.get b=some y):=by
 have hsrc:=src_block (P:=P) (m:=M.push (.cells false sn (enc x))) (c:=1) (k:=1) (N:=N) (news:=enc x) (ro:=false) (s:=sn) hx (Mem.get_push_new M _) (by rw[henc];omega)
 rcases h with⟨rfl,rfl⟩|⟨h0,g,hgk,rfl,hg⟩
 ·have ha:=gapp_nil (P:=P) (N:=N) (k:=1) (news:=enc x) hu hi hz hs hzc (M.push (.cells false sn (enc x))) hsrc (by decide) (by omega) (by decide)
  rw[Mem.size_push]at ha
  refine⟨_,_,ha,rfl,.inr ⟨by simp,M.size+1,by omega,rfl,?_⟩,by simp only[Mem.size_push],fun b y _ hy=>?_⟩
  ·have:=Mem.get_push_new (M.push (.cells false sn (enc x))) (.cells false N (enc x))
   rw[Mem.size_push]at this
   rw[this]
   simp
  ·have:=Mem.get_lt hy
   rw[Mem.get_push_old (by rw[Mem.size_push];omega),Mem.get_push_old this];exact hy
 ·have hgl:=Mem.get_lt hg
  have ha:=gapp (P:=P) (N:=N) (k:=1) (n:=L.length) (cs:=L.flatMap enc) (news:=enc x) hu hi hz hs hzc (M.push (.cells false sn (enc x))) hsrc (by decide)
   (by rw[Mem.get_push_old hgl];exact hg) (flat_length henc L) (by have:=Nat.mul_le_mul (show L.length+1≤1000001 by omega) hby;omega) (by omega)
  rw[Mem.size_push]at ha
  refine⟨_,_,ha,rfl,.inr ⟨by simp,M.size+1,by omega,by simp,?_⟩,by simp only[Mem.size_push,Mem.size_set],fun b y hb hy=>?_⟩
  ·have:=Mem.get_push_new ((M.push (.cells false sn (enc x))).set g none) (.cells false N (L.flatMap enc++enc x))
   rw[Mem.size_set,Mem.size_push]at this
   rw[this,List.flatMap_append];simp
  ·have:=Mem.get_lt hy
   rw[Mem.get_push_old (by rw[Mem.size_set,Mem.size_push];omega),Mem.get_set_ne (by intro e;apply hb;rw[e];rfl),Mem.get_push_old this];exact hy
end
theorem flat_one{α:Type}(f:α→Value)(L:List α):(L.flatMap fun a=>[f a])=L.map f:=by
 induction L with
 |nil=>rfl
 |cons a L ih=>rw[List.flatMap_cons,ih];rfl
theorem Ext_zero:Tryz.t102.zero=some (.agg noExt.cells.toArray):=by kernel_rfl
theorem Ext_bytes:Tryz.t102.bytes≤1000:=by decide
theorem new_ext1(x:Ext):JF qc 128 1 [(0,.agg x.cells.toArray)]=some (.cells false 8 x.cells):=by kernel_rfl
abbrev Vd(k:Nat)(M:Mem)(V:Value)(L:List Ext):Prop:=OwnL Ext.cells 8 k M V L
theorem list8{α:Type}{l:List α}(h:l.length=8):∃a b c d e f g i,l=[a,b,c,d,e,f,g,i]:=by
 match l,h with
 | [a,b,c,d,e,f,g,i],_=>exact⟨a,b,c,d,e,f,g,i,rfl⟩
theorem list4{α:Type}{l:List α}(h:l.length=4):∃a b c d,l=[a,b,c,d]:=by
 match l,h with
 | [a,b,c,d],_=>exact⟨a,b,c,d,rfl⟩
theorem ix_A8{vk:List Value}(h:vk.length=8){i:Nat}{v:Value}(hv:vk[i]?=some v):UU qc 120 (.agg vk.toArray) (.int .i64 (i:Nat))=some v:=by
 have hi:i<8:=by have:=(qe.1 hv).1;omega
 obtain⟨a,b,c,d,e,f,g,j,rfl⟩:=list8 h
 rcases(by omega:i=0∨i=1∨i=2∨i=3∨i=4∨i=5∨i=6∨i=7)with rfl|rfl|rfl|rfl|rfl|rfl|rfl|rfl<;>(simp at hv;subst hv;show _=some _;kernel_rfl)
theorem ix_A4{vk:List Value}(h:vk.length=4){i:Nat}{v:Value}(hv:vk[i]?=some v):UU qc 118 (.agg vk.toArray) (.int .i64 (i:Nat))=some v:=by
 have hi:i<4:=by have:=(qe.1 hv).1;omega
 obtain⟨a,b,c,d,rfl⟩:=list4 h
 rcases(by omega:i=0∨i=1∨i=2∨i=3)with rfl|rfl|rfl|rfl<;>(simp at hv;subst hv;show _=some _;kernel_rfl)
theorem row_kept(s p:Nat)(D:Dep){vo vk:List Value}(h4:vo.length=4)(h8:vk.length=8):Jm 8 7 (some (.cells false s (JG p D vo vk)))=some (.agg vk.toArray):=by
 obtain⟨a,b,c,d,e,f,g,j,rfl⟩:=list8 h8
 obtain⟨a',b',c',d',rfl⟩:=list4 h4
 rfl
theorem row_opn(s p:Nat)(D:Dep){vo vk:List Value}(h4:vo.length=4)(h8:vk.length=8):Jm 4 3 (some (.cells false s (JG p D vo vk)))=some (.agg vo.toArray):=by
 obtain⟨a,b,c,d,e,f,g,j,rfl⟩:=list8 h8
 obtain⟨a',b',c',d',rfl⟩:=list4 h4
 rfl
theorem filtm_step{α:Type}{l:List (Option α)}{i:Nat}{o:Option α}(h:l[i]?=some o):(l.take (i+1)).filterMap id=(l.take i).filterMap id++o.toList:=by
 rw[List.take_add_one,h,Option.toList_some,List.filterMap_append]
 cases o<;>rfl
theorem filtm_len{α:Type}(l:List (Option α))(i:Nat):((l.take i).filterMap id).length≤l.length:=by
 have:=qz id (l.take i)
 rw[qu]at this
 omega
theorem verify_check{key:List UInt8}{h:Header}(hv:h.verify key=0):h.check=0:=by
 unfold Header.verify at hv
 split at hv
 ·exact absurd hv (by decide)
 ·rename_i h1
  exact(ZR h).resolve_right h1
theorem fit_may{key:List UInt8}{n:Nat}{x:Ext}(h:fitX key n x)(hn:n≤1024):Jz x=true:=by
 obtain⟨h1,h2,h3⟩:=h
 unfold Jz Header.may
 rw[decide_eq_true (verify_check h1),decide_eq_true (by omega:(0:Int)≤x.base),decide_eq_true (by omega:x.base≤1024-x.head.n)]
 rfl
theorem Dep.Ok.fit{D:Dep}{n:Nat}(h:D.Ok n):∀x∈D.places,fitX D.key n x:=by
 intro x hx
 unfold Dep.places QB at hx
 rw[List.mem_append]at hx
 rcases hx with hx|hx
 ·rw[List.mem_filterMap]at hx
  obtain⟨o,ho,e⟩:=hx
  have e:o=some x:=e
  subst e
  exact h.fitK x ho
 ·rw[List.mem_map]at hx
  obtain⟨r,hr,rfl⟩:=hx
  rw[List.mem_filterMap]at hr
  obtain⟨o,ho,e⟩:=hr
  have e:o=some r:=e
  subst e
  obtain⟨a,b,c,_⟩:=h.fitO r ho
  exact⟨a,b,c⟩
theorem ext_row{L:List Ext}{i:Nat}{x:Ext}(hx:L[i]?=some x)(s:Nat):Jm 8 (i*8) (some (.cells false s (L.flatMap Ext.cells)))=some (.agg x.cells.toArray):=
 rowIn_at (n:=8) (fun a _=>ext_len a) hx false s
theorem other_spec(x y:Ext)(hx:Jz x=true)(hy:Jz y=true)(b s:Nat)(M:Mem)(hb:M.get b=some (.cells false s x.cells)):
 Abs.Spec qc 152 [.agg y.cells.toArray,.pointer (some ⟨b,0,none⟩)] M fun u M'=>u=.bool (VW x y)∧More M M':=by
 refine Abs.Spec.walkM Tryz.func152 (by rfl) _ Tryz.results152 _ Tryz.ntmps152 (by simp) ?_
 intro hc hx0 k
 have bx:QK qc 102 (.agg y.cells.toArray)=some (.cells false (J5 qc 102) y.cells):=UP _ rfl
 generalize J5 qc 102=s1 at bx
 have row:∀(s:Nat)(x:Ext),Jm 8 0 (some (.cells false s x.cells))=some (.agg x.cells.toArray):=fun _ _=>rfl
 have k0:∀(s:Nat)(x:Ext),cellIn 0 (some (.cells false s x.cells))=some (.int .i64 x.head.id):=fun _ _=>rfl
 obtain⟨M1,hM1⟩:∃M1,M1=M.push (.cells false s1 y.cells):=⟨_,rfl⟩
 have mo:More M M1:=by rw[hM1];exact More.push _ _
 have gy:M1.get M.size=some (.cells false s1 y.cells):=by rw[hM1,Mem.get_push_new]
 have gx:=mo.get _ _ hb
 refine J0 (R1 @bx ?_)
 rw[←hM1]
 refine J0 (J1 ?_)
 cases e:(y.head.id==x.head.id)with
 |true=>
  refine S4 @gx @gy @k0 @e ?_
  refine T0 ?_
  have e2:y.head.id=x.head.id:=by simpa using e
  exact⟨_,Thin.refl _,by unfold VW;rw[decide_eq_true e2];rfl,mo⟩
 |false=>
  refine S5 @gx @gy @k0 @e @row ?_
  refine K0 (cmeet_at x y hx hy _) ?_
  refine T0 ?_
  have e2:¬y.head.id=x.head.id:=by simpa using e
  exact⟨_,Thin.refl _,by unfold VW;rw[decide_eq_false e2];rfl,mo⟩
theorem idxother_spec(x:Ext)(hx:Jz x=true)(b s K:Nat)(M:Mem)(V:Value)(L:List Ext)(h:Vd K M V L)(hL:∀y∈L,Jz y=true)(hl:L.length≤1000)(hb:M.get b=some (.cells false s x.cells)):
 Abs.Spec qc 237 [V,.func (.func 152) #[] #[.pointer (some ⟨b,0,none⟩)]] M fun u M'=>∃z,u=.int .i64 z∧decide (z≥0)=L.any (VW x)∧More M M':=by
 obtain⟨a0,c0,hV⟩:=h.len
 subst hV
 refine Abs.Spec.walkM Tryz.func237 (by rfl) _ Tryz.results237 _ Tryz.ntmps237 (by simp) ?_
 intro hc hx0 k
 refine J0 (R0 ?_)
 refine J0 (J0 (R0 ?_))
 refine Ja (JD (fun j f M'=>∃i:Nat,j=L.length-i∧f=[(0,.slice a0 L.length c0),(1,.func (.func 152) #[] #[.pointer (some ⟨b,0,none⟩)]),(7,.int .i64 (L.length:Nat)),(8,.int .i64 (i:Nat))]∧i≤L.length∧
  ((L.take i).any (VW x)=false)∧More M M') L.length ?_ ?_)
 ·refine JK [0,1,7,8] ?_
  exact⟨M,Thin.refl _,0,rfl,rfl,by omega,rfl,More.refl _⟩
 ·rintro j f M' ⟨i,rfl,rfl,hi,hno,hgr⟩
  refine J0 (R0 ?_)
  refine J0 (CC (decide ((i:Int)<(L.length:Int))) (fun hq=>J6 ?_) (fun hq=>JE ?_))
  ·have hiL:=of_decide_eq_true hq
   obtain⟨y,hY⟩:∃y,L[i]?=some y:=⟨_,qf (by omega)⟩
   obtain⟨g,rfl,_,hg⟩:=h.at hY
   have hyL:y∈L:=qw hY
   have z0:(0:Int)≤(i:Int):=by omega
   have r1:=ext_row hY 8
   have gg:=hgr.get _ _ hg
   have w9:IntKind.i64.wrap ((i:Int)+1)=((i+1:Nat):Int):=by rw[XJ (by omega) (by omega)];omega
   have hta:(L.take (i+1)).any (VW x)=VW x y:=by rw[List.take_add_one,hY,Option.toList_some,List.any_append,hno];simp
   simp only[zZ,reduceIte,yQ,yW,yX,yZ,yJ,yK,yV]
   refine J0 (Ja (J0 (R0 ?_)))
   refine J0 (R5 @z0 @hiL @and_self @gg @r1 ?_)
   refine⟨by kernel_rfl,_,other_spec x y hx (hL y hyL) b s M' (hgr.get _ _ hb),?_⟩
   rintro _ M2 ⟨rfl,hg2⟩
   have hgr2:=hgr.trans hg2
   refine S0 ?_
   refine CC (VW x y) (fun he=>J0 (J1 ?_)) (fun he=>J6 ?_)
   ·refine S0 ?_
    refine T0 ?_
    refine⟨M2,Thin.refl _,(i:Int),rfl,?_,hgr2⟩
    rw[decide_eq_true (by omega)]
    exact(List.any_eq_true.2 ⟨y,hyL,he⟩).symm
   ·simp only[zZ,reduceIte,yQ,yW,yX,yZ,yJ,yK,yV]
    refine R1 @w9 ?_
    refine JK [0,1,7,8] ?_
    exact⟨M2,Thin.refl _,L.length-(i+1),⟨i+1,rfl,rfl,by omega,by rw[hta];exact he,hgr2⟩,by omega⟩
  ·have hiL:=of_decide_eq_false hq
   simp only[zZ,reduceIte,yQ,yW,yX,yZ,yJ,yK,yV]
   refine J0 (R0 ?_)
   refine T0 ?_
   rw[List.take_of_length_le (by omega)]at hno
   exact⟨M',Thin.refl _, -1,rfl,by rw[hno];rfl,hgr⟩
theorem anyother_spec(x:Ext)(hx:Jz x=true)(b s K:Nat)(M:Mem)(V:Value)(L:List Ext)(h:Vd K M V L)(hL:∀y∈L,Jz y=true)(hl:L.length≤1000)(hb:M.get b=some (.cells false s x.cells)):
 Abs.Spec qc 153 [V,.func (.func 152) #[] #[.pointer (some ⟨b,0,none⟩)]] M fun u M'=>u=.bool (L.any (VW x))∧More M M':=by
 refine Abs.Spec.walkM Tryz.func153 (by rfl) _ Tryz.results153 _ Tryz.ntmps153 (by simp) ?_
 intro hc hx0 k
 refine J0 (R0 ?_)
 refine J0 (R0 ?_)
 refine⟨by kernel_rfl,_,idxother_spec x hx b s K M V L h hL hl hb,?_⟩
 rintro _ M2 ⟨z,rfl,hz,hg2⟩
 refine S1 @hz ?_
 refine T0 ?_
 exact⟨M2,Thin.refl _,hg2⟩
theorem app_push(M:Mem)(N:List (Option Blk))(y:Blk):(M.app N).push y=M.app (N++[some y]):=by
 simp[Mem.app,Mem.push]
theorem Up(M:Mem)(N:List (Option Blk)):(M.app N).size=M.size+N.length:=by
 simp[Mem.app,Mem.size]
theorem app_set(M:Mem)(N:List (Option Blk))(g:Nat)(o:Option Blk)(hg:M.size≤g):(M.app N).set g o=M.app (N.set (g-M.size) o):=by
 unfold Mem.app Mem.set
 unfold Mem.size at hg
 simp only
 rw[qk _ _ hg,List.map_set]
 rfl
theorem own_set{N:List (Option Blk)}(h:N.all ZY=true)(i:Nat)(o:Option Blk)(ho:ZY o=true):(N.set i o).all ZY=true:=by
 rw[List.all_eq_true]at h ⊢
 intro x hx
 rcases qy hx with hx|rfl
 ·exact h x hx
 ·exact ho
section
variable {α : Type} {enc : α → List Value} {N : Nat}
variable {P : Program} {t tx e d : TypeId} {i : TypeInfo} {z : Value}
theorem oappx(hu:P.underlying t=some (.slice e))(hi:P.info? e=some i)(hz:i.zero=some z)(hs:i.size=N)(hzc:z.cells.toList.length=N)(hx:P.underlying tx=some (.slice d))(henc:∀a,(enc a).length=N)(hby:i.bytes≤1000)
 {k:Nat} {M0 M:Mem} {N0:List (Option Blk)} {V:Value} {L:List α} (hM:M=M0.app N0) (hN0:N0.all ZY=true) (h:OwnL enc N k M V L) (hk0:M0.size≤k) (hk:k≤M.size) (hl:L.length≤1000000) (x:α) (sn:Nat):
 ∃N1 V',JN P (M.push (.cells false sn (enc x))) t tx V (.slice (some ⟨M.size,0,none⟩) 1 1)=some (V',M0.app N1)∧N1.all ZY=true∧OwnL enc N k (M0.app N1) V' (L++[x])∧
  (M0.app N1).size=M.size+2∧(∃a n c,V'=.slice a n c):=by
 have hsrc:=src_block (P:=P) (m:=M.push (.cells false sn (enc x))) (c:=1) (k:=1) (N:=N) (news:=enc x) (ro:=false) (s:=sn) hx (Mem.get_push_new M _) (by rw[henc];omega)
 rcases h with⟨rfl,rfl⟩|⟨h0,g,hgk,rfl,hg⟩
 ·have ha:=gapp_nil (P:=P) (N:=N) (k:=1) (news:=enc x) hu hi hz hs hzc (M.push (.cells false sn (enc x))) hsrc (by decide) (by omega) (by decide)
  rw[Mem.size_push]at ha
  have e1:(M.push (.cells false sn (enc x))).push (.cells false N (enc x))=M0.app (N0++[some (Blk.cells false sn (enc x))]++[some (Blk.cells false N (enc x))]):=by rw[hM,app_push,app_push]
  rw[e1]at ha
  refine⟨_,_,ha,?_,.inr ⟨by simp,M.size+1,by omega,rfl,?_⟩,?_,_,_,_,rfl⟩
  ·rw[qC,qC,hN0];rfl
  ·rw[←e1]
   have:=Mem.get_push_new (M.push (.cells false sn (enc x))) (.cells false N (enc x))
   rw[Mem.size_push]at this
   rw[this]
   simp
  ·rw[←e1];simp only[Mem.size_push]
 ·have hgl:=Mem.get_lt hg
  have ha:=gapp (P:=P) (N:=N) (k:=1) (n:=L.length) (cs:=L.flatMap enc) (news:=enc x) hu hi hz hs hzc (M.push (.cells false sn (enc x))) hsrc (by decide)
   (by rw[Mem.get_push_old hgl];exact hg) (flat_length henc L) (by have:=Nat.mul_le_mul (show L.length+1≤1000001 by omega) hby;omega) (by omega)
  rw[Mem.size_push]at ha
  have e1:((M.push (.cells false sn (enc x))).set g none).push (.cells false N (L.flatMap enc++enc x))=M0.app ((N0++[some (Blk.cells false sn (enc x))]).set (g-M0.size) none++[some (Blk.cells false N (L.flatMap enc++enc x))]):=by rw[hM,app_push,app_set _ _ _ _ (by omega),app_push]
  rw[e1]at ha
  refine⟨_,_,ha,?_,.inr ⟨by simp,M.size+1,by omega,by simp,?_⟩,?_,_,_,_,rfl⟩
  ·rw[qC,own_set (by rw[qC,hN0];rfl) _ _ rfl];rfl
  ·rw[←e1]
   have:=Mem.get_push_new ((M.push (.cells false sn (enc x))).set g none) (.cells false N (L.flatMap enc++enc x))
   rw[Mem.size_set,Mem.size_push]at this
   rw[this,List.flatMap_append];simp
  ·rw[←e1];simp only[Mem.size_push,Mem.size_set]
end
def StepE(M:Mem)(o:Option Ext)(p p':List (Option Blk)×Value):Prop:=match o with
 |some x=>JN qc ((M.app p.1).push (.cells false 8 x.cells)) 128 128 p.2 (.slice (some ⟨(M.app p.1).size,0,none⟩) 1 1)=some (p'.2,M.app p'.1)
 |none=>p'=p
def InvE(M:Mem)(es:List (Option Ext))(i:Nat)(p:List (Option Blk)×Value):Prop:=p.1.all ZY=true∧Vd M.size (M.app p.1) p.2 ((es.take i).filterMap id)
theorem chainE(M:Mem)(es:List (Option Ext))(hl:es.length≤1000):∀n,n≤es.length→∃sq:Nat→List (Option Blk)×Value,sq 0=([],.slice none 0 0)∧(∀i,i≤n→InvE M es i (sq i))∧∀(i:Nat) o,i<n→es[i]?=some o→StepE M o (sq i) (sq (i+1)):=by
 intro n
 induction n with
 |zero=>
  intro _
  refine⟨fun _=>([],.slice none 0 0),rfl,fun i hi=>?_,fun i o hi=>by omega⟩
  obtain rfl:i=0:=by omega
  exact⟨rfl,OwnL.nil _ _⟩
 |succ n ih=>
  intro hn
  obtain⟨sq,h0,h1,h2⟩:=ih (by omega)
  obtain⟨o,ho⟩:∃o,es[n]?=some o:=⟨_,qf (by omega)⟩
  have hst:=filtm_step ho
  obtain⟨p',hp1,hp2⟩:∃p',InvE M es (n+1) p'∧StepE M o (sq n) p':=by
   obtain⟨i1,i2⟩:=h1 n (qx _)
   cases o with
   |none=>
    refine⟨sq n,⟨i1,?_⟩,rfl⟩
    rw[hst,Option.toList_none,List.append_nil];exact i2
   |some x=>
    have hlen:=filtm_len es n
    obtain⟨N1,V',a1,a2,a3,_⟩:=oappx Tryz.underlying128 inf_Ext Ext_zero sz_Ext rfl Tryz.underlying128 (fun _=>rfl) Ext_bytes (M0:=M) rfl i1 i2 (qx _) (by rw[Up];omega) (by omega) x 8
    exact⟨(N1,V'),⟨a2,by rw[hst];exact a3⟩,a1⟩
  refine⟨fun j=>if j=n+1 then p' else sq j,by simp[h0],fun i hi=>?_,fun i o' hi ho'=>?_⟩
  ·by_cases e:i=n+1
   ·subst e;simpa using hp1
   ·simp only[e,if_false];exact h1 i (by omega)
  ·by_cases e:i=n
   ·subst e
    rw[ho]at ho';cases ho'
    simpa using hp2
   ·have e1:¬i=n+1:=by omega
    have e2:¬i+1=n+1:=by omega
    simp only[e1,e2,if_false]
    exact h2 i o' (by omega) ho'
def esOf(D:Dep):List (Option Ext):=D.kept++D.opn.map fun o=>o.map Rec.x
theorem esOf_places(D:Dep):(esOf D).filterMap id=D.places:=by
 unfold esOf Dep.places QB
 rw[List.filterMap_append]
 congr 1
 induction D.opn with
 |nil=>rfl
 |cons o r ih=>cases o<;>simp_all
theorem Zs(M:Mem)(N:List (Option Blk))(b:Nat)(x:Blk)(h:M.get b=some x):(M.app N).get b=some x:=by
 have hl:=Mem.get_lt h
 unfold Mem.size at hl
 unfold Mem.get at h ⊢
 unfold Mem.app
 simp only
 rw[qr hl]
 exact h
theorem places_exact(P p q g:Nat)(d:Dsk)(D:Dep)(M:Mem)(h:DepAt M P p q g d D):
 ∃V N,Abs.Spec qc 59 [.pointer (some ⟨P,0,none⟩)] M (fun u M'=>u=V∧M'=M.app N)∧N.all ZY=true∧Vd M.size (M.app N) V D.places:=by
 have hel:(esOf D).length=12:=by unfold esOf;rw[qn,List.length_map,h.ok.kept,h.ok.opn]
 obtain⟨sq,sq0,inv,stp⟩:=chainE M (esOf D) (by omega) 12 (by omega)
 have inv12:=inv 12 (qx _)
 unfold InvE at inv12
 rw[List.take_of_length_le (by omega),esOf_places]at inv12
 refine⟨(sq 12).2,(sq 12).1,?_,inv12.1,inv12.2⟩
 have esK:∀(i:Nat) o,D.kept[i]?=some o→(esOf D)[i]?=some o:=fun i o hi=>by
  unfold esOf
  rw[qr (qe.1 hi).1];exact hi
 have esO:∀(i:Nat) o,D.opn[i]?=some o→(esOf D)[8+i]?=some (o.map Rec.x):=fun i o hi=>by
  unfold esOf
  rw[qi (by rw[h.ok.kept];omega),h.ok.kept,Nat.add_sub_cancel_left,List.getElem?_map,hi];rfl
 have appM:∀N b x,M.get b=some x→(M.app N).get b=some x:=fun N b x=>Zs M N b x
 refine VE Tryz.func59 Tryz.results59 Tryz.ntmps59 fun hc hx k=>?_
 obtain⟨s,vo,vk,hrow,ho,hk⟩:=h.row
 have l4:vo.length=4:=by rw[ho.len,h.ok.opn]
 have l8:vk.length=8:=by rw[hk.len,h.ok.kept]
 have rk:=row_kept s p D l4 l8
 have ro:=row_opn s p D l4 l8
 have z9:∀i:Nat,i<100→IntKind.i64.wrap ((i:Int)+1)=((i+1:Nat):Int):=fun i hi=>by rw[XJ (by omega) (by omega)];omega
 have eM:M=M.app (sq 0).1:=by rw[sq0];simp[Mem.app]
 have eV:(Value.slice none 0 0)=(sq 0).2:=by rw[sq0]
 have hrowA:=appM (sq 0).1 _ _ hrow
 refine J0 (R0 ?_)
 refine J0 (R0 ?_)
 rw[eM,eV]
 refine XQ (fun f M'=>f=[(0,.pointer (some ⟨P,0,none⟩)),(3,(sq 8).2)]∧M'=M.app (sq 8).1) ?_ ?_
 ·refine J0 (R2 @hrowA @rk ?_)
  refine Ja (JD (fun j f M'=>∃(i:Nat),j=8-i∧f=[(0,.pointer (some ⟨P,0,none⟩)),(3,(sq (i)).2),(11,.agg vk.toArray),(12,.int .i64 (i:Nat))]∧i≤8∧M'=M.app (sq (i)).1) 8 ?_ ?_)
  ·refine JK [0,3,11,12] ?_
   exact⟨_,Thin.refl _,0,rfl,rfl,by omega,rfl⟩
  ·rintro j f M' ⟨i,rfl,rfl,hi,rfl⟩
   refine J0 (R0 ?_)
   refine J0 (CC (decide ((i:Int)<8)) (fun hq=>J6 ?_) (fun hq=>JE ?_))
   ·have hi8:=of_decide_eq_true hq
    obtain⟨o,hoi⟩:∃o,D.kept[i]?=some o:=⟨_,qf (by rw[h.ok.kept];omega)⟩
    obtain⟨v,hv,hp⟩:=hk.at_ i o hoi
    have ix:=ix_A8 l8 hv
    have w9:=z9 i (by omega)
    have st:=stp i o (by omega) (esK i o hoi)
    simp only[zZ,reduceIte,yQ,yW,yX,yZ,yJ,yK,yV]
    refine J0 (Ja (J0 (R1 @ix ?_)))
    refine J0 (J1 ?_)
    cases o with
    |none=>
     obtain rfl:v=.pointer none:=hp
     have e1:sq (i+1)=sq (i):=st
     refine S0 ?_
     refine CF (J6 ?_)
     simp only[zZ,reduceIte,yQ,yW,yX,yZ,yJ,yK,yV]
     refine R1 @w9 ?_
     refine JK [0,3,11,12] ?_
     exact⟨_,Thin.refl _,8-(i+1),⟨i+1,rfl,by rw[e1],by omega,by rw[e1]⟩,by omega⟩
    |some x=>
     obtain⟨b,s',hb,rfl,gb⟩:=hp
     have gb':=appM (sq i).1 _ _ gb
     have rx:Jm 8 0 (some (.cells false s' x.cells))=some (.agg x.cells.toArray):=rfl
     have nw:=new_ext1 x
     have ap4:JN qc ((M.app (sq (i)).1).push (.cells false 8 x.cells)) 128 128 (sq (i)).2 (.slice (some ⟨(M.app (sq (i)).1).size,0,none⟩) 1 1)=some ((sq (i+1)).2,M.app (sq (i+1)).1):=st
     refine S0 ?_
     refine CT (R4 @gb' @rx @nw @ap4 ?_)
     refine R1 @w9 ?_
     refine JK [0,3,11,12] ?_
     exact⟨_,Thin.refl _,8-(i+1),⟨i+1,rfl,rfl,by omega,rfl⟩,by omega⟩
   ·have hi8:=of_decide_eq_false hq
    obtain rfl:i=8:=by omega
    refine JK [0,3] ?_
    exact⟨_,Thin.refl _,rfl⟩
 rintro _ _ ⟨rfl,rfl⟩
 have hrowA:=appM (sq 8).1 _ _ hrow
 refine XQ (fun f M'=>f=[(3,(sq 12).2)]∧M'=M.app (sq 12).1) ?_ ?_
 ·refine J0 (R2 @hrowA @ro ?_)
  refine Ja (JD (fun j f M'=>∃(i:Nat),j=4-i∧f=[(0,.pointer (some ⟨P,0,none⟩)),(3,(sq (8+i)).2),(27,.agg vo.toArray),(28,.int .i64 (i:Nat))]∧i≤4∧M'=M.app (sq (8+i)).1) 4 ?_ ?_)
  ·refine JK [0,3,27,28] ?_
   exact⟨_,Thin.refl _,0,rfl,rfl,by omega,rfl⟩
  ·rintro j f M' ⟨i,rfl,rfl,hi,rfl⟩
   refine J0 (R0 ?_)
   refine J0 (CC (decide ((i:Int)<4)) (fun hq=>J6 ?_) (fun hq=>JE ?_))
   ·have hi8:=of_decide_eq_true hq
    obtain⟨o,hoi⟩:∃o,D.opn[i]?=some o:=⟨_,qf (by rw[h.ok.opn];omega)⟩
    obtain⟨v,hv,hp⟩:=ho.at_ i o hoi
    have ix:=ix_A4 l4 hv
    have w9:=z9 i (by omega)
    have st:=stp (8+i) (o.map Rec.x) (by omega) (esO i o hoi)
    simp only[zZ,reduceIte,yQ,yW,yX,yZ,yJ,yK,yV]
    refine J0 (Ja (J0 (R1 @ix ?_)))
    refine J0 (J1 ?_)
    cases o with
    |none=>
     obtain rfl:v=.pointer none:=hp
     have e1:sq (8+i+1)=sq (8+i):=st
     refine S0 ?_
     refine CF (J6 ?_)
     simp only[zZ,reduceIte,yQ,yW,yX,yZ,yJ,yK,yV]
     refine R1 @w9 ?_
     refine JK [0,3,27,28] ?_
     exact⟨_,Thin.refl _,4-(i+1),⟨i+1,rfl,by rw[←Nat.add_assoc,e1],by omega,by rw[←Nat.add_assoc,e1]⟩,by omega⟩
    |some x=>
     obtain⟨b,s',hb,rfl,gb⟩:=hp
     have gb':=appM (sq (8+i)).1 _ _ gb
     have rx:Jm 8 0 (some (.cells false s' x.cells))=some (.agg x.x.cells.toArray):=rfl
     have nw:=new_ext1 x.x
     have ap4:JN qc ((M.app (sq (8+i)).1).push (.cells false 8 x.x.cells)) 128 128 (sq (8+i)).2 (.slice (some ⟨(M.app (sq (8+i)).1).size,0,none⟩) 1 1)=some ((sq (8+i+1)).2,M.app (sq (8+i+1)).1):=st
     refine S0 ?_
     refine CT (R4 @gb' @rx @nw @ap4 ?_)
     refine R1 @w9 ?_
     refine JK [0,3,27,28] ?_
     exact⟨_,Thin.refl _,4-(i+1),⟨i+1,rfl,rfl,by omega,rfl⟩,by omega⟩
   ·have hi8:=of_decide_eq_false hq
    obtain rfl:i=4:=by omega
    refine JK [3] ?_
    exact⟨_,Thin.refl _,rfl⟩
 rintro _ _ ⟨rfl,rfl⟩
 refine J0 (R0 ?_)
 refine T0 ?_
 exact⟨_,Thin.refl _,by rw[←eM]⟩
end Go.Proofs.YteccmcpaheepcaaGreatDoor
namespace Go.Proofs.YteccmcpaheepcaaGreatDoor.Abs
open Go Go.RowKit
section
variable [Defs]
theorem SW_drawG{P:Program}{n:Nat}{Q:Exit→AL→Mem→Prop}{f:AL}{m:Mem}{id:Nat}{ops:Array Oper}(hmix:P.follows .mixedOrders=true)(q:Nat)(hq:Qk ops q=true)(hqs:Nat.ble q ops.size=true)
 (h:VU P n ops.toList m (fun f' M=>sOps P n ops.toList (Q .normal) (ops.toList.drop q) f' M) false (ops.toList.take q) f m):SW P n (.region id ops true) Q f m:=by
 intro a ha
 have hqs:=Nat.le_of_ble_eq_true hqs
 obtain⟨vs,Ns,f',h1,h2,h3,h4,_⟩:=sHead_runG 0 (fun _=>undef) (fun _=>[]) (a₀:=a) (m₀:=m) (QN hq) hqs (ops.toList.take q) 0 [] [] false f m (fun j=>by rw[List.getElem?_take,Array.getElem?_toList,Nat.zero_add]) (by omega) rfl rfl ha (by simp[Ji,Q2])
  (fun _ j=>by simp[Jx]) (fun j hj=>by omega) (fun i o _ hi=>by omega) (fun i o _ hi=>by omega) (qx _) (fun j hj=>by omega) h
 exact AW_draw hmix q hq hqs (JQ vs) (Jx Ns) (fun i o hi ho=>h4 i o (Nat.zero_le _) hi ho) (ZM (fun f m a h1 h2=>⟨f,h1,h2⟩) _ f' _ _ h1 h2)
def sPhG(P:Program)(n:Nat)(all:List Oper)(K:AL→Mem→Prop):List (Nat×Nat)→Nat→AL→Mem→Prop
 | [],_,f,M=>K f M
 |(q,b')::r,b,f,M=>VU P n all M (fun f1 M1=>sOps P n all (fun f2 M2=>sPhG P n all K r b' f2 M2) ((all.drop q).take (b'-q)) f1 M1) false ((all.drop b).take (q-b)) f M
theorem sPhG_from{P:Program}{n:Nat}{ops:Array Oper}{Q:Exit→AL→Mem→Prop}:∀(l:List (Nat×Nat))(b:Nat)(f:AL)(M:Mem)(a:List Value),phasesOK ops l b=true→Knows n f a→sPhG P n ops.toList (Q .normal) l b f M→
 From P ops (fun e a' m'=>∃f',Knows n f' a'∧Q e f' m') b a M
 | [],b,f,M,a,hok,hf,h=>From_end (Nat.le_of_ble_eq_true hok) ⟨f,hf,h⟩
 |(q,b')::r,b,f,M,a,hok,hf,h=>by
  simp only[phasesOK,qt]at hok
  obtain⟨hok,hrest⟩:=hok
  obtain⟨hho,hseq,hbar,hbq,hqb,hb'⟩:=phaseOK_spec hok
  have hid:∀k,k<b→JQ ((List.range b).map (idV ops a)) k=idV ops a k:=fun k hk=>by
   unfold JQ
   rw[List.getElem?_map,List.getElem?_range hk];rfl
  have hnil:∀k,Jx (qd b []) k=[]:=fun k=>by
   unfold Jx
   rw[qj]
   split<;>rfl
  obtain⟨vs,Ns,f',h1,h2,h3,h4,h5,h6⟩:=sHead_runG b (idV ops a) (fun _=>[]) (a₀:=a) (m₀:=M) hho (by omega) ((ops.toList.drop b).take (q-b)) b ((List.range b).map (idV ops a)) (qd b []) false f M
   (fun j=>by
    rw[List.getElem?_take,List.getElem?_drop,Array.getElem?_toList]
    by_cases hj:b+j<q
    ·rw[if_pos (by omega),if_pos hj]
    ·rw[if_neg (by omega),if_neg hj]) hbq (by simp) (by simp)
   (by rw[frameAt_id b fun k hk _=>hid k hk];exact hf)
   (by
    unfold Ji
    have:∀i,Q2 (Jx (qd b [])) allS i=[]:=by
     intro i
     induction i with
     |zero=>rfl
     |succ i ih=>simp[Q2,ih,hnil]
    rw[this,List.append_nil])
   (fun _ j=>hnil j) (fun j hj=>by rw[hnil];rfl) (fun i o hi hi2=>by omega) (fun i o hi hi2=>by omega) (qx _) (fun j hj=>⟨hid j hj,hnil j⟩) h
  refine From_phase (v:=JQ vs) (N:=Jx Ns) hok (fun k hk=>(h6 k hk).1) (fun k hk=>(h6 k hk).2) h4 ?_
  refine ZM (fun f2 M2 a2 g1 g2=>?_) _ f' _ _ h1 h2
  exact sPhG_from r b' f2 M2 a2 hrest g1 g2
theorem SW_drawnG{P:Program}{n:Nat}{Q:Exit→AL→Mem→Prop}{f:AL}{m:Mem}{id:Nat}{ops:Array Oper}(hmix:P.follows .mixedOrders=true)(l:List (Nat×Nat))(hok:phasesOK ops l 0=true)
 (h:sPhG P n ops.toList (Q .normal) l 0 f m):SW P n (.region id ops true) Q f m:=fun a ha=>AW_from hmix (sPhG_from l 0 f m a hok ha h)
end
section
def VH(P:Program)(n:Nat)(all:List Oper) [K:Box (AL→Mem→Prop)]:List (Nat×Nat)→Nat→AL→Mem→Prop
 | [],_,f,M=>K.k f M
 |(q,b')::r,b,f,M=>@JY P n all M ⟨fun f1 M1=>@sOpsB P n all ⟨fun f2 M2=>VH P n all r b' f2 M2⟩ ((all.drop q).take (b'-q)) f1 M1⟩ ((all.drop b).take (q-b)) false f M
theorem sPhGB_eq(P:Program)(n:Nat)(all:List Oper)(K:AL→Mem→Prop):∀(l:List (Nat×Nat))(b:Nat)(f:AL)(M:Mem),@VH P n all ⟨K⟩ l b f M=sPhG P n all K l b f M
 | [],_,_,_=>rfl
 |(q,b')::r,b,f,M=>by
  have:(fun f2 M2=>@VH P n all ⟨K⟩ r b' f2 M2)=(fun f2 M2=>sPhG P n all K r b' f2 M2):=funext fun f2=>funext fun M2=>sPhGB_eq P n all K r b' f2 M2
  exact congrArg (fun G=>@JY P n all M ⟨fun f1 M1=>@sOpsB P n all ⟨G⟩ ((all.drop q).take (b'-q)) f1 M1⟩ ((all.drop b).take (q-b)) false f M) this
variable {P : Program} {n k : Nat} {f : AL} {m : Mem} {Q : Exit → AL → Mem → Prop}
theorem CW_drawG{id:Nat}{ops:Array Oper}(hmix:P.follows .mixedOrders=true)(q:Nat)(hq:Qk ops q=true)(hqs:Nat.ble q ops.size=true)
 (h:@JY P n ops.toList m ⟨fun f' M=>@sOpsB P n ops.toList ⟨Q .normal⟩ (ops.toList.drop q) f' M⟩ (ops.toList.take q) false f m):@CW P n k ⟨.region id ops true⟩ ⟨Q⟩ f m:=.of_SW (SW_drawG hmix q hq hqs h)
theorem CW_drawnG{id:Nat}{ops:Array Oper}(hmix:P.follows .mixedOrders=true)(l:List (Nat×Nat))(hok:phasesOK ops l 0=true)
 (h:@VH P n ops.toList ⟨Q .normal⟩ l 0 f m):@CW P n k ⟨.region id ops true⟩ ⟨Q⟩ f m:=.of_SW (SW_drawnG hmix l hok (by rw[←sPhGB_eq];exact h))
theorem Q4(M:Mem):M.app []=M:=by simp[Mem.app]
theorem Qm:(!([]:List (Option Blk)).isEmpty)=false:=rfl
end
end Go.Proofs.YteccmcpaheepcaaGreatDoor.Abs
namespace Go.Proofs.YteccmcpaheepcaaGreatDoor
open Go.RowKit Abs
theorem at0{P:Program}{k:FuncId}{xs:List Value}{m:Mem}{v:Value}(h:Abs.Spec P k xs m fun u M=>u=v∧M=m):Abs.Spec P k xs m fun u M=>u=v∧M=m.app []:=
 h.mono fun _ _ h=>by rw[Q4];exact h
theorem fits_spec(P p q g:Nat)(d:Dsk)(D:Dep)(M:Mem)(h:DepAt M P p q g d D)(hkey:D.key.length≤1000000)(x:Ext)(hm:Jz x=true):
 Abs.Spec qc 70 [.pointer (some ⟨P,0,none⟩),.agg x.cells.toArray] M fun u M'=>u=.bool (Vx D.key d.old.length D.places x)∧More M M':=by
 have hn:=h.dsk.ok.n
 obtain⟨hok,hb0,hb1⟩:=UE hm
 have hn2:=Uc hok
 refine VE Tryz.func70 Tryz.results70 Tryz.ntmps70 fun hc hx k=>?_
 have bx:QK qc 102 (.agg x.cells.toArray)=some (.cells false (J5 qc 102) x.cells):=UP _ rfl
 generalize J5 qc 102=s1 at bx
 have row:Jm 7 0 (some (.cells false s1 x.cells))=some (.agg x.head.cells.toArray):=rfl
 have k7:cellIn 7 (some (.cells false s1 x.cells))=some (.int .i64 x.base):=rfl
 have k2:cellIn 2 (some (.cells false s1 x.cells))=some (.int .i64 x.head.n):=rfl
 obtain⟨M1,hM1⟩:∃M1,M1=M.push (.cells false s1 x.cells):=⟨_,rfl⟩
 obtain⟨b3,hb3⟩:∃b,b=M.size:=⟨_,rfl⟩
 have mo:More M M1:=by rw[hM1];exact More.push _ _
 have g3:M1.get b3=some (.cells false s1 x.cells):=by rw[hM1,hb3,Mem.get_push_new]
 have h1:=h.same mo.get
 obtain⟨s,vo,vk,hrow,ho,hk⟩:=h1.row
 have c0:cellIn 0 (some (.cells false s (JG p D vo vk)))=some (dp p):=rfl
 have c1:cellIn 1 (some (.cells false s (JG p D vo vk)))=some (.string (str D.key)):=rfl
 have w1:IntKind.i64.wrap (x.base+x.head.n)=x.base+x.head.n:=XJ (by omega) (by omega)
 obtain⟨r,hr⟩:∃r,r=Vx D.key d.old.length D.places x:=⟨_,rfl⟩
 rw[←hr]
 unfold Vx at hr
 refine J0 (R1 @bx ?_)
 rw[←hM1,←hb3]
 refine J0 (J1 ?_)
 simp only[zZ,reduceIte,yQ,yW,yX,yZ,yJ,yK,yV,zDk,Jc,Jd,J9,J8,Zy,vFunc]
 refine J0 (CW_drawG hmix 31 (by kernel_rfl) (by kernel_rfl) ?_)
 simp only[zZ,reduceIte,yQ,yW,yX,yZ,yJ,yK,yV,JY,Qy,QS,isVal,sGuardedV,Q4,Qm,zDk,Jc,Jd,J9,J8,Zy,hrow,c1,g3,row]
 refine⟨by kernel_rfl,_,[],at0 (hverify_at D.key (by omega) x.head _),rfl,?_⟩
 have e1:(x.head.verify D.key==0)=decide (x.head.verify D.key=0):=by rw[qB];simp
 cases p1:(x.head.verify D.key==0)with
 |false=>
  rw[e1]at p1
  rw[p1]at hr
  rw[←e1]at p1
  simp only[zZ,reduceIte,yQ,yW,yX,yZ,yJ,yK,yV,JY,Qy,QS,isVal,sGuardedV,Q4,Qm,zDk,Jc,Jd,J9,J8,Zy,hrow,c1,g3,row,p1]
  refine Ql ?_
  simp only[zZ,reduceIte,yQ,yW,yX,yZ,yJ,yK,yV,JY,Qy,QS,isVal,sGuardedV,Q4,Qm,zDk,Jc,Jd,J9,J8,Zy,mEnd,sAnswer,sAnswer.sRes]
  exact⟨_,Thin.refl _,by rw[hr];rfl,mo⟩
 |true=>
  rw[e1]at p1
  rw[p1]at hr
  rw[←e1]at p1
  cases p2:decide (x.base≥13)with
  |false=>
   have p2':decide (13≤x.base)=false:=p2
   rw[p2']at hr
   simp only[zZ,reduceIte,yQ,yW,yX,yZ,yJ,yK,yV,JY,Qy,QS,isVal,sGuardedV,Q4,Qm,zDk,Jc,Jd,J9,J8,Zy,hrow,c1,g3,row,p1,k7,p2]
   refine Ql ?_
   simp only[zZ,reduceIte,yQ,yW,yX,yZ,yJ,yK,yV,JY,Qy,QS,isVal,sGuardedV,Q4,Qm,zDk,Jc,Jd,J9,J8,Zy,mEnd,sAnswer,sAnswer.sRes]
   exact⟨_,Thin.refl _,by rw[hr];rfl,mo⟩
  |true=>
   have p2':decide (13≤x.base)=true:=p2
   rw[p2']at hr
   simp only[zZ,reduceIte,yQ,yW,yX,yZ,yJ,yK,yV,JY,Qy,QS,isVal,sGuardedV,Q4,Qm,zDk,Jc,Jd,J9,J8,Zy,hrow,c1,g3,row,p1,k7,p2,k2,w1,c0]
   refine⟨by kernel_rfl,_,[],at0 (dlen_spec _ p q g d h1.dsk),rfl,?_⟩
   cases p3:decide (x.base+x.head.n≤(d.old.length:Int))with
   |false=>
    rw[p3]at hr
    simp only[zZ,reduceIte,yQ,yW,yX,yZ,yJ,yK,yV,JY,Qy,QS,isVal,sGuardedV,Q4,Qm,zDk,Jc,Jd,J9,J8,Zy,p3]
    refine Ql ?_
    simp only[zZ,reduceIte,yQ,yW,yX,yZ,yJ,yK,yV,JY,Qy,QS,isVal,sGuardedV,Q4,Qm,zDk,Jc,Jd,J9,J8,Zy,mEnd,sAnswer,sAnswer.sRes]
    exact⟨_,Thin.refl _,by rw[hr];rfl,mo⟩
   |true=>
    rw[p3]at hr
    simp only[zZ,reduceIte,yQ,yW,yX,yZ,yJ,yK,yV,JY,Qy,QS,isVal,sGuardedV,Q4,Qm,zDk,Jc,Jd,J9,J8,Zy,p3]
    obtain⟨V,N,pe,pN,hown⟩:=places_exact P p q g d D M1 h1
    have mo2:More M1 (M1.app N):=⟨fun b x hb=>Zs M1 N b x hb,by rw[Up];omega⟩
    refine⟨by kernel_rfl,_,N,pe,pN,?_⟩
    simp only[zZ,reduceIte,yQ,yW,yX,yZ,yJ,yK,yV,JY,Qy,QS,isVal,sGuardedV,Q4,Qm,zDk,Jc,Jd,J9,J8,Zy]
    refine⟨by kernel_rfl,_,anyother_spec x hm b3 s1 _ _ V D.places hown (fun y hy=>fit_may (h.ok.fit y hy) hn) ?_ (mo2.get _ _ g3),?_⟩
    ·unfold Dep.places QB
     have h2:=qz id D.kept
     have h3:=qz id D.opn
     rw[h.ok.kept]at h2
     rw[h.ok.opn]at h3
     rw[qn,List.length_map];omega
    rintro _ M3 ⟨rfl,mo3⟩
    simp only[zZ,reduceIte,yQ,yW,yX,yZ,yJ,yK,yV,JY,Qy,QS,isVal,sGuardedV,Q4,Qm,zDk,Jc,Jd,J9,J8,Zy]
    refine Ql ?_
    simp only[zZ,reduceIte,yQ,yW,yX,yZ,yJ,yK,yV,JY,Qy,QS,isVal,sGuardedV,Q4,Qm,zDk,Jc,Jd,J9,J8,Zy,mEnd,sAnswer,sAnswer.sRes]
    exact⟨_,Thin.refl _,by rw[hr];rfl,(mo.trans mo2).trans mo3⟩
theorem keys_spec(secret salt:ByteArray)(h1:secret.size≤140737488355000)(h2:salt.size≤140737488355000)(m:Mem):
 Abs.Spec qc 48 [.string secret,.string salt] m fun u M=>u=keysV secret.data.toList salt.data.toList∧M=m:=
 Abs.Spec.of_flat (by simp[flat]) rfl fun w=>keys_any secret salt w h1 h2
theorem U0(s:List UInt8):(Sha.headKey s).length=32:=by
 have h32:∀k info:List UInt8,Sha.expand k info 32=(Sha.tag k (info++[1])).take 32:=fun _ _=>rfl
 rw[Sha.headKey,h32,qu,Sha.tag_length]
 decide
theorem encKey_len32(s t:List UInt8):(Sha.encKey s t).length=32:=by
 have h32:∀k info:List UInt8,Sha.expand k info 32=(Sha.tag k (info++[1])).take 32:=fun _ _=>rfl
 rw[Sha.encKey,h32,qu,Sha.tag_length]
 decide
theorem macKey_len32(s t:List UInt8):(Sha.macKey s t).length=32:=by
 have h32:∀k info:List UInt8,Sha.expand k info 32=(Sha.tag k (info++[1])).take 32:=fun _ _=>rfl
 rw[Sha.macKey,h32,qu,Sha.tag_length]
 decide
theorem read_at{d:Dsk}{i:Nat}(hi:i<d.old.length):d.read (i:Int)=if d.dead=true then([],7)else(d.sector i,0):=by
 unfold Dsk.read Dsk.may
 by_cases h:d.dead=true
 ·rw[if_pos h,if_pos h];rfl
 ·have h2:¬((i:Int)<0∨(d.old.length:Int)≤(i:Int)):=by omega
  simp only[if_neg h,if_neg h2,if_true,qh]
theorem sector_len{d:Dsk}(hok:d.Ok){i:Nat}(hi:i<d.old.length):(d.sector i).length=256:=(Dsk.poss_lt hok (Dsk.poss_sector hi)).2
theorem catTake_may{s:List UInt8}(h:(Xf s).2=0):Jz (Xf s).1=true:=by
 unfold Xf at h ⊢
 split at h
 ·cases h
 ·rename_i h1
  rw[if_neg h1]
  split at h
  ·cases h
  ·rename_i h2
   rw[if_neg h2]
   split at h
   ·cases h
   ·rename_i h3
    rw[if_neg h3]
    simp only[not_or]at h3
    simpa using h3.2
theorem mayExt_n{x:Ext}(h:Jz x=true):0≤x.head.n:=by
 have:=Uc (UE h).1
 omega
theorem jouTake_may{s:List UInt8}(h:(QL s).2=0):Jz (QL s).1.x=true∧((QL s).1.got.length:Int)=(QL s).1.x.head.n:=by
 unfold QL at h ⊢
 split at h
 ·cases h
 ·rename_i h1
  rw[if_neg h1]
  split at h
  ·cases h
  ·rename_i h2
   rw[if_neg h2]
   split at h
   ·cases h
   ·rename_i h3
    rw[if_neg h3]
    simp only[not_or]at h3
    have hm:Jz ⟨(ZO (str (Xh s 4 98))).1,(Sha.num (Xh s 102 2):Nat)⟩=true:=by simpa using h3.2.1
    refine⟨hm,?_⟩
    have h0:=mayExt_n hm
    simp only at h0
    simp only
    rw[setTake_len (by simpa using h3.2.2)]
    omega
theorem places_none(k:List (Option Ext))(n:Nat):QB k (qd n none)=QB k []:=by
 unfold QB
 rw[show(qd n (none:Option Rec)).filterMap id=[] by induction n with|zero=>rfl|succ n ih=>rw[List.replicate_succ];simpa using ih]
 rfl
theorem VY(d:Dsk)(key:List UInt8):∀k j,k≤j→j<8→(Jp d key k)[j]?=some none
 |0,j,_,hj=>by
  show(qd 8 (none:Option Ext))[j]?=_
  rw[qj,if_pos hj]
 |k+1,j,hk,hj=>by
  rw[Jp,qo (by omega)]
  exact VY d key k j (by omega) hj
theorem set_same{α:Type}{l:List α}{i:Nat}{x:α}(h:l[i]?=some x):l.set i x=l:=by
 apply List.ext_getElem?
 intro j
 by_cases e:i=j
 ·subst e
  rw[qp (qe.1 h).1,h]
 ·rw[qo e]
theorem fits_fitX{key:List UInt8}{n:Nat}{l:List Ext}{x:Ext}(h:Vx key n l x=true):fitX key n x:=by
 unfold Vx at h
 simp only[qt,decide_eq_true_eq]at h
 exact⟨h.1.1.1,h.1.1.2,h.1.2⟩
def Dep.fresh(key:List UInt8):Dep:=⟨key,0,qd 4 none,qd 8 none,0⟩
theorem ptrs_none{α:Type}(enc:α→List Value)(K:List Nat)(M:Mem)(n:Nat):PtrsAt enc K M (qd n none) (qd n (.pointer none)):=
 ⟨by simp,fun i o h=>by
  rw[qj]at h
  split at h
  ·rename_i hi
   cases h
   exact⟨.pointer none,by rw[qj,if_pos hi],rfl⟩
  ·cases h⟩
theorem fresh_ok(key:List UInt8)(n:Nat):(Dep.fresh key).Ok n:=
 ⟨by simp[Dep.fresh],by simp[Dep.fresh],fun r h=>by simp[Dep.fresh]at h,fun r h=>by simp[Dep.fresh]at h⟩
theorem depC_setE(p:Nat)(D:Dep)(vo vk:List Value)(n:Int):(JG p D vo vk).set 2 (.int .i64 n)=JG p { D with epoch:=n } vo vk:=rfl
theorem DepAt.turnE{M:Mem}{P p q g:Nat}{d:Dsk}{D:Dep}(h:DepAt M P p q g d D){s:Nat}{vo vk:List Value}(ho:PtrsAt Rec.cells [P,p,q,g] M D.opn vo)(hk:PtrsAt Ext.cells [P,p,q,g] M D.kept vk)
 (hrow:M.get P=some (.cells false s (JG p D vo vk))) (n:Int):
 DepAt (M.set P (some (.cells false s ((JG p D vo vk).set 2 (.int .i64 n))))) P p q g d { D with epoch:=n }:=by
 have hon:Only [P] M (M.set P (some (.cells false s ((JG p D vo vk).set 2 (.int .i64 n))))):=Only.set (by simp) _
 refine⟨h.dsk.only hon (by simp;exact Ne.symm h.ne.1) (by simp;exact Ne.symm h.ne.2.1) (by simp;exact Ne.symm h.ne.2.2),⟨h.ok.opn,h.ok.kept,h.ok.fitO,h.ok.fitK⟩,⟨s,vo,vk,?_,ho.only hon (by simp),hk.only hon (by simp)⟩,h.ne⟩
 rw[Mem.get_set_same hrow,depC_setE]
theorem nextE_len(d:Dsk)(i:Int):(d.nextE i).1.old.length=d.old.length:=by
 unfold Dsk.nextE
 split
 ·rfl
 ·split
  ·rfl
  ·split
   ·exact Qw _ _ _
   ·split
    ·exact(sync_len _).trans (Qw _ _ _)
    ·exact(sync_len _).trans (Qw _ _ _)
theorem opn_stick{key:List UInt8}{K:List (Option Ext)}{d:Dsk}{k:Nat}(h:(Jo key K d k).2.2≠0):∀n,k≤n→Jo key K d n=Jo key K d k:=by
 intro n hn
 induction n with
 |zero=>obtain rfl:k=0:=by omega
        rfl
 |succ n ih=>
  by_cases e:k=n+1
  ·rw[e]
  ·have:=ih (by omega)
   show(if(Jo key K d n).2.2≠0 then Jo key K d n else UB key K (Jo key K d n).1 (Jo key K d n).2.1 n)=_
   rw[this,if_pos h]
theorem XM:Qd ZG=[]:=by decide+kernel
theorem new_sector(n i:Nat)(hi:i<n):(JJ n).sector i=ZG:=by
 unfold Dsk.sector JJ
 simp only[JL,List.find?_nil,Option.map_none,Option.getD_none,qj,if_pos hi,Option.getD_some]
theorem last_zeroS:lastV ZG=(0,0):=by decide+kernel
theorem new_len(n:Nat):(JJ n).old.length=n:=by simp[JJ]
theorem new_may(n i:Nat)(hi:i<n):(JJ n).may (i:Int)=0:=by
 unfold Dsk.may
 rw[if_neg (by simp[JJ]),if_neg (by rw[new_len];omega)]
def JT(n:Nat):Dsk:=⟨JB (Q1 1)::qd (n-1) ZG,[],1, -1,false⟩
theorem next_new(n:Nat)(h1:1≤n)(h2:n≤1024):(JJ n).nextE 0=(JT n,1,0):=by
 have hlen:=new_len n
 have hw:(JJ n).write 0 (Q1 1)=(((JJ n).burnt.put 0 (JB (Q1 1))),0):=by
  have hl:(Q1 1).length=8:=by decide+kernel
  unfold Dsk.write
  rw[if_neg (by rw[show(JJ n).may 0=0 from new_may n 0 (by omega)];simp),if_neg (by omega),if_neg (by show¬((-1:Int)=0);decide)]
  rfl
 obtain⟨D,hD⟩:∃D,D=(JJ n).burnt.put 0 (JB (Q1 1)):=⟨_,rfl⟩
 have hD2:D=⟨qd n ZG,[(0,JB (Q1 1),0)],1, -1,false⟩:=by rw[hD];rfl
 have hs:D.sync=(JT n,0):=by
  unfold Dsk.sync
  have hm:D.may 0=0:=by
   rw[hD2]
   unfold Dsk.may
   rw[if_neg (by simp),if_neg (by simp;omega)]
  have hbu:D.burnt=D:=by rw[hD2];rfl
  rw[if_neg (by rw[hm];simp),if_neg (by rw[hD2];show¬((-1:Int)=0);decide),hbu,hD2]
  unfold Dsk.synced JT
  simp only[Prod.mk.injEq,Dsk.mk.injEq,and_true]
  obtain⟨k,rfl⟩:∃k,n=k+1:=⟨n-1,by omega⟩
  rw[List.replicate_succ,List.mapIdx_cons,Nat.add_sub_cancel]
  congr 1
  apply List.ext_getElem?
  intro i
  rw[List.getElem?_mapIdx,qj]
  split
  ·simp[JL]
  ·rfl
 have hlast:(JJ n).lastE 0=(0,0):=by
  unfold Dsk.lastE
  rw[if_pos (show(JJ n).may 0=0 from new_may n 0 (by omega)),new_sector n _ (by show 0<n;omega),last_zeroS]
 unfold Dsk.nextE
 rw[hlast]
 simp only[show((0:Int)+1)=1 from rfl,hw,←hD,hs,ne_eq,not_true_eq_false,if_false]
 rw[if_neg (by decide)]
theorem kept_blank{d:Dsk}{key:List UInt8}(h:∀i,i<8→Qd (d.sector (5+i))=[]):∀k,k≤8→Jp d key k=qd 8 none
 |0,_=>rfl
 |k+1,hk=>by
  rw[Jp,kept_blank h k (by omega)]
  have:keptStep d key (qd 8 none) k=none:=by
   unfold keptStep
   rw[catTake_blank (h k (by omega)),if_neg (by simp)]
  rw[this]
  exact set_same (by rw[qj,if_pos (by omega)])
theorem opn_blank{d:Dsk}{key:List UInt8}{K:List (Option Ext)}(h:∀i,i<4→Qd (d.sector (1+i))=[]):∀k,k≤4→Jo key K d k=(d,qd 4 none,0)
 |0,_=>rfl
 |k+1,hk=>by
  show(if(Jo key K d k).2.2≠0 then Jo key K d k else UB key K (Jo key K d k).1 (Jo key K d k).2.1 k)=_
  rw[opn_blank h k (by omega),if_neg (by simp)]
  unfold UB
  rw[jouTake_blank (h k (by omega)),if_neg (by simp),if_neg (by simp)]
theorem open_new(n:Nat)(h1:13≤n)(h2:n≤1024)(key:List UInt8):openD (JJ n) key=(JT n,some ⟨key,1,qd 4 none,qd 8 none,0⟩,0):=by
 have hk:Jp (JJ n) key 8=qd 8 none:=kept_blank (fun i hi=>by rw[new_sector n _ (by omega)];exact XM) 8 (qx _)
 have ho:Jo key (qd 8 none) (JJ n) 4=(JJ n,qd 4 none,0):=opn_blank (fun i hi=>by rw[new_sector n _ (by omega)];exact XM) 4 (qx _)
 unfold openD
 rw[if_neg (by rw[new_len];omega),if_neg (by simp[JJ]),hk,ho,next_new n (by omega) h2]
 rfl
def Dp0(key:List UInt8)(ep st:Int):Dep:=⟨key,ep,qd 4 none,qd 8 none,st⟩
def ZW(key:List UInt8)(a:Arc)(ep st:Int)(G:List Bool):Dep:=⟨key,ep,some ⟨a.ext,G⟩::qd 3 none,qd 8 none,st⟩
def Dp2(key:List UInt8)(a:Arc)(ep st:Int):Dep:=⟨key,ep,qd 4 none,some a.ext::qd 7 none,st⟩
def Zg(a:Arc)(G:List Bool):List UInt8:=QD ⟨a.ext,G⟩
section
variable {key : List UInt8} {a : Arc} {ep st : Int} {G : List Bool}
theorem ext_may(hk:ArcOk key a)(hl:a.blocks.length≤6):Jz a.ext=true:=by
 have hn:=hk.len
 have h:=Uc hk.may
 unfold Jz
 simp only[qt,decide_eq_true_eq]
 refine⟨⟨?_,by show(0:Int)≤13;decide⟩,by show(13:Int)≤1024-a.head.n;omega⟩
 unfold Header.may
 exact decide_eq_true ((Header.check_zero _).2 hk.may)
theorem d0_head(id:Int):(Dp0 key ep st).headAt id=(noHead,false,8):=rfl
theorem d1_ext(id:Int):(ZW key a ep st G).ext? id=none:=rfl
theorem d1_rec:(ZW key a ep st G).rec? a.head.id=some (0,⟨a.ext,G⟩):=by
 show X4 (fun r:Rec=>decide (r.x.head.id=a.head.id)) (some ⟨a.ext,G⟩::qd 3 none) 0=_
 unfold X4
 rw[if_pos (decide_eq_true (by rfl))]
theorem d0_places:(Dp0 key ep st).places=[]:=rfl
theorem room_first(N n:Int)(h1:1≤n)(h2:n≤7)(hN:20≤N):roomV 13 N n []=some 13:=by
 unfold roomV
 rw[if_neg (by omega)]
 obtain⟨k,hk⟩:∃k,(N-13-n+1).toNat=k+1:=⟨(N-13-n).toNat,by omega⟩
 rw[hk]
 unfold roomGo
 rw[if_pos (by rfl)]
structure Sess(a:Arc)(e:Nat)(d:Dsk)(Gp G:List Bool):Prop where
 hist:Hist a d e (fun X=>X=Gp∨X=G)
 len:(G.length:Int)=a.head.n
 cur:d.sector 1=JB (Zg a G)
 sure:Sure a d G
 one:∀s,d.poss 1 s→s=JB (Zg a Gp)∨s=JB (Zg a G)
 five:∀s,d.poss 5 s→Qd s=[]
theorem burnt_dead{d:Dsk}(h:d.fuse=0):d.burnt.dead=true:=by unfold Dsk.burnt;rw[if_pos h]
theorem U3{d:Dsk}{i:Nat}{x:List UInt8}(hi:i<d.old.length)(hx:x.length≤256)(hd:d.dead=false)(h:(d.write (i:Int) x).2≠0):
 (d.write (i:Int) x).2=7∧(d.write (i:Int) x).1.dead=true∧∀j s,(d.write (i:Int) x).1.poss j s↔d.poss j s:=by
 rw[Dsk.write_eq hi hx,if_neg (by rw[hd];decide)]at h ⊢
 split at h
 ·rename_i hf
  rw[if_pos hf]
  exact⟨rfl,burnt_dead hf,fun j s=>Dsk.burnt_poss⟩
 ·exact absurd rfl h
theorem sync_bad{d:Dsk}(hn:0<d.old.length)(hd:d.dead=false)(h:d.sync.2≠0):
 d.sync.2=7∧d.sync.1.dead=true∧∀j s,d.sync.1.poss j s↔d.poss j s:=by
 rw[Dsk.sync_eq hn,if_neg (by rw[hd];decide)]at h ⊢
 split at h
 ·rename_i hf
  rw[if_pos hf]
  exact⟨rfl,burnt_dead hf,fun j s=>Dsk.burnt_poss⟩
 ·exact absurd rfl h
theorem sync_alive{d:Dsk}(hn:0<d.old.length)(h0:d.sync.2=0):d.dead=false∧d.sync.1.dead=false:=by
 rw[Dsk.sync_eq hn]at h0 ⊢
 split at h0
 ·cases h0
 ·split at h0
  ·cases h0
  ·rename_i h1 h2
   rw[if_neg h1,if_neg h2]
   refine⟨by simpa using h1,?_⟩
   show d.burnt.dead=false
   unfold Dsk.burnt
   rw[if_neg h2]
   simpa using h1
theorem write_new{d:Dsk}{i:Nat}{x:List UInt8}(hi:i<d.old.length)(hx:x.length≤256)(h0:(d.write (i:Int) x).2=0):(d.write (i:Int) x).1.sector i=JB x:=by
 rw[Dsk.write_sector hi hx h0,if_pos rfl]
theorem sure_synced{a:Arc}{d:Dsk}{G:List Bool}{k:Nat}{b:List UInt8}(hb:a.blocks[k]?=some b)(hG:Sure a d G)(hn:0<d.old.length)(hcur:d.sector (13+k)=JB b)(h0:d.sync.2=0):Sure a d.sync.1 (G.set k true):=fun j c hj hc t ht=>by
 have e:=Dsk.sync_done hn h0 ht
 by_cases ejk:j=k
 ·subst ejk
  rw[hb]at hc;cases hc
  rw[e,hcur]
 ·rw[qo (fun h=>ejk h.symm)]at hj
  exact hG j c hj hc t (Dsk.sync_poss hn ht)
theorem Hist.cong{a:Arc}{d d':Dsk}{e:Nat}{P:List Bool→Prop}(h:Hist a d e P)(hok:d'.Ok)(hn:d'.old.length=d.old.length)(hp:∀i t,d'.poss i t↔d.poss i t):Hist a d' e P:=
 h.less hok hn fun i t ht=>(hp i t).1 ht
theorem sess_stage{e:Nat}{d:Dsk}{Gp:List Bool}(hk:ArcOk key a)(hl:a.blocks.length≤6)(h:Sess a e d Gp G)(hd:d.dead=false)(k:Nat)(b:List UInt8)(hb:a.blocks[k]?=some b)(hG:G.getD k false=false):
 (Dep.staged1 d (ZW key a ep st G) 0 ⟨a.ext,G⟩ (k:Int) b).2.2=0∧(Dep.staged1 d (ZW key a ep st G) 0 ⟨a.ext,G⟩ (k:Int) b).2.1=ZW key a ep (st+1) (G.set k true)∧
  Sess a e (Dep.staged1 d (ZW key a ep st G) 0 ⟨a.ext,G⟩ (k:Int) b).1 G (G.set k true)∧(Dep.staged1 d (ZW key a ep st G) 0 ⟨a.ext,G⟩ (k:Int) b).1.dead=false∧(d.live→(Dep.staged1 d (ZW key a ep st G) 0 ⟨a.ext,G⟩ (k:Int) b).1.live)
 ∨¬d.live∧(Dep.staged1 d (ZW key a ep st G) 0 ⟨a.ext,G⟩ (k:Int) b).2.2=7∧(∃st',(st'=st∨st'=st+1)∧(Dep.staged1 d (ZW key a ep st G) 0 ⟨a.ext,G⟩ (k:Int) b).2.1=ZW key a ep st' G)∧
  Hist a (Dep.staged1 d (ZW key a ep st G) 0 ⟨a.ext,G⟩ (k:Int) b).1 e (fun X=>X=Gp∨X=G)∧(∀s,(Dep.staged1 d (ZW key a ep st G) 0 ⟨a.ext,G⟩ (k:Int) b).1.poss 1 s→s=JB (Zg a Gp)∨s=JB (Zg a G))∧(Dep.staged1 d (ZW key a ep st G) 0 ⟨a.ext,G⟩ (k:Int) b).1.dead=true:=by
 have hn40:=h.hist.n
 have hpos:0<d.old.length:=by omega
 have hkl:=(qe.1 hb).1
 have hbl:b.length=224:=hk.size b (qw hb)
 have hwi:13+k<d.old.length:=by omega
 have hx:b.length≤256:=by omega
 have hm:=ext_may hk hl
 have hGl:G.length=a.blocks.length:=by have:=h.len;have:=hk.len;omega
 obtain⟨W,hW⟩:∃W,W=d.write ((13+k:Nat):Int) b:=⟨_,rfl⟩
 have hWe:d.write ((⟨a.ext,G⟩:Rec).x.base+(k:Int)) b=W:=by rw[hW];congr 1
 obtain⟨Y,hY⟩:∃Y,Y=W.1.sync:=⟨_,rfl⟩
 obtain⟨U,hU⟩:∃U,U=Y.1.write ((1+0:Nat):Int) (Zg a (G.set k true)):=⟨_,rfl⟩
 have hrest:=stage_rest (d:=d) (D:=ZW key a ep st G) (k:=0) (r:=⟨a.ext,G⟩) (i:=(k:Int)) (s:=b) hWe.symm hY (show U=_ from hU)
 obtain⟨Z,hZ⟩:∃Z,Z=Dep.staged1 d (ZW key a ep st G) 0 ⟨a.ext,G⟩ (k:Int) b:=⟨_,rfl⟩
 rw[←hZ]at hrest ⊢
 have hist1:Hist a W.1 e (fun X=>X=Gp∨X=G):=by rw[hW];exact h.hist.data hb hx (by omega)
 have wp:∀i t,W.1.poss i t→d.poss i t∨(i=13+k∧t=JB b):=fun i t ht=>by rw[hW]at ht;exact Dsk.write_poss hwi hx ht
 have one1:∀s,W.1.poss 1 s→s=JB (Zg a Gp)∨s=JB (Zg a G):=fun s hs=>by
  rcases wp 1 s hs with h1|⟨h1,_⟩
  ·exact h.one s h1
  ·omega
 by_cases w0:W.2=0
 ·rw[if_neg (by simp[w0])]at hrest
  have wa:=Dsk.write_alive hwi hx (by rw[←hW];exact w0)
  rw[←hW]at wa
  have ws:W.1.sector (13+k)=JB b:=by rw[hW];exact write_new hwi hx (by rw[←hW];exact w0)
  have ws1:W.1.sector 1=JB (Zg a G):=by
   rw[hW,Dsk.write_sector hwi hx (by rw[←hW];exact w0),if_neg (by omega)];exact h.cur
  have hist2:Hist a Y.1 e (fun X=>X=Gp∨X=G):=by rw[hY];exact hist1.sync
  have hWn:0<W.1.old.length:=by have:=hist1.n;omega
  have sure1:Sure a W.1 G:=h.sure.less fun i t _ ht=>by
   rcases wp i t ht with h1|⟨h1,h2⟩
   ·exact .inl h1
   ·exact .inr ⟨k,b,h1,hb,h2⟩
  by_cases y0:Y.2=0
  ·rw[if_neg (by simp[y0])]at hrest
   have ya:=sync_alive hWn (by rw[←hY];exact y0)
   rw[←hY]at ya
   have sure2:Sure a Y.1 (G.set k true):=by rw[hY];exact sure_synced hb sure1 hWn ws (by rw[←hY];exact y0)
   have y1:∀s,Y.1.poss 1 s→s=JB (Zg a G):=fun s hs=>by
    rw[hY]at hs
    rw[Dsk.sync_done hWn (by rw[←hY];exact y0) hs,ws1]
   have y5:∀s,Y.1.poss 5 s→Qd s=[]:=fun s hs=>by
    rw[hY]at hs
    rcases wp 5 s (Dsk.sync_poss hWn hs)with h1|⟨h1,_⟩
    ·exact h.five s h1
    ·omega
   have hGs:((G.set k true).length:Int)=a.head.n:=by rw[qq];exact h.len
   have hYn:20≤Y.1.old.length:=hist2.n
   have hi1:1+0<Y.1.old.length:=by omega
   have hx1:(Zg a (G.set k true)).length≤256:=by unfold Zg;rw[jouText_len hm];decide
   have hist2':Hist a Y.1 e (fun X=>X=G∨X=G.set k true):=⟨hist2.ok,hist2.n,hist2.s0,hist2.free,fun s hs=>.inr ⟨G,h.len,.inl rfl,y1 s hs,fun j c hj hc t ht=>sure2 j c (by
    by_cases e:k=j
    ·subst e;rw[qp (by omega)]
    ·rw[qo e];exact hj) hc t ht⟩,fun s hs=>.inl (y5 s hs)⟩
   by_cases u0:U.2=0
   ·left
    rw[if_neg (by simp[u0])]at hrest
    have ua:=Dsk.write_alive hi1 hx1 (by rw[←hU];exact u0)
    rw[←hU]at ua
    have up:∀i t,U.1.poss i t→Y.1.poss i t∨(i=1+0∧t=JB (Zg a (G.set k true))):=fun i t ht=>by rw[hU]at ht;exact Dsk.write_poss hi1 hx1 ht
    rw[hrest]
    refine⟨rfl,rfl,⟨?_,hGs,?_,?_,?_,?_⟩,ua.2,fun hlv=>?_⟩
    ·show Hist a U.1 e _
     rw[hU]
     exact hist2'.record hx1 (.inr ⟨G.set k true,hGs,.inr rfl,rfl,sure2⟩)
    ·show U.1.sector 1=_
     rw[hU]
     exact write_new hi1 hx1 (by rw[←hU];exact u0)
    ·exact sure2.less fun i t hi ht=>by
      rcases up i t ht with h1|⟨h1,_⟩
      ·exact .inl h1
      ·omega
    ·intro s hs
     rcases up 1 s hs with h1|⟨_,h1⟩
     ·exact .inl (y1 s h1)
     ·exact .inr h1
    ·intro s hs
     rcases up 5 s hs with h1|⟨h1,_⟩
     ·exact y5 s h1
     ·omega
    ·show U.1.live
     rw[hU]
     refine(Dsk.write_live hi1 hx1 ?_).2
     rw[hY]
     refine(Dsk.sync_live hWn ?_).2
     rw[hW]
     exact(Dsk.write_live hwi hx hlv).2
   ·right
    rw[if_pos u0]at hrest
    have ub:=U3 hi1 hx1 ya.2 (by rw[←hU];exact u0)
    rw[←hU]at ub
    rw[hrest]
    refine⟨fun hlv=>?_,ub.1,⟨st+1,.inr rfl,rfl⟩,?_,?_,ub.2.1⟩
    ·apply u0
     rw[hU]
     refine(Dsk.write_live hi1 hx1 ?_).1
     rw[hY]
     refine(Dsk.sync_live hWn ?_).2
     rw[hW]
     exact(Dsk.write_live hwi hx hlv).2
    ·exact hist2.cong (by rw[hU];exact Dsk.write_ok hist2.ok hi1 hx1) (by rw[hU,Dsk.write_old hi1 hx1]) ub.2.2
    ·intro s hs
     exact .inr (y1 s ((ub.2.2 1 s).1 hs))
  ·right
   rw[if_pos y0]at hrest
   have yb:=sync_bad hWn wa.2 (by rw[←hY];exact y0)
   rw[←hY]at yb
   rw[hrest]
   refine⟨fun hlv=>?_,yb.1,⟨st+1,.inr rfl,rfl⟩,hist2,fun s hs=>one1 s ((yb.2.2 1 s).1 hs),yb.2.1⟩
   apply y0
   rw[hY]
   refine(Dsk.sync_live hWn ?_).1
   rw[hW]
   exact(Dsk.write_live hwi hx hlv).2
 ·right
  rw[if_pos w0]at hrest
  have wb:=U3 hwi hx hd (by rw[←hW];exact w0)
  rw[←hW]at wb
  rw[hrest]
  refine⟨fun hlv=>?_,wb.1,⟨st,.inl rfl,rfl⟩,hist1,one1,wb.2.1⟩
  apply w0
  rw[hW]
  exact(Dsk.write_live hwi hx hlv).1
end
end Go.Proofs.YteccmcpaheepcaaGreatDoor
