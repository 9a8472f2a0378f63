/-
  A depot in memory; the walk of find.
-/
import Derived.Test.YteccmcpaheepcaaGreatDoorOnce13
import Derived.Test.YteccmcpaheepcaaGreatDoorOnce10
import Derived.Test.YteccmcpaheepcaaGreatDoorOnce09
import Derived.Test.YteccmcpaheepcaaGreatDoorOnce08
import Derived.Test.YteccmcpaheepcaaGreatDoorOnce03
set_option linter.unusedSimpArgs false
set_option linter.unusedVariables false
set_option linter.unusedSectionVars false
set_option linter.unnecessarySimpa false
set_option linter.defProp false
set_option maxRecDepth 100000
set_option maxHeartbeats 16000000
open Nat renaming reduceLT → yQ, reduceEqDiff → yK, reduceAdd → yV, reduceSub → yY, reduceMul → yU
open Int renaming reduceToNat → yW, reduceLE → yX, reduceEq → yZ, reduceLT → yJ
open Go.Proofs.Tryz renaming prog → qc, underlying84 → qf, underlying54 → qh, underlying31 → qq, t9 → qA
open List renaming replicate → qd, getElem?_eq_some_iff → qe, getElem?_eq_getElem → qj, getElem?_append_right → qk, getElem?_replicate → qm, set_append_right → qo, length_append → qp, getElem?_append_left → qr, length_set → qu, getElem?_set_self → qv, getElem?_set_ne → qw, mem_or_eq_of_mem_set → qx, length_filterMap_le → qz, take_of_length_le → qB, not_mem_nil → qC, length_take → qD, length_replicate → qE, mem_of_getElem? → qF, range → qG, all_append → qH, mem_cons → qI
open Int renaming toNat_natCast → qi
open Nat renaming le_refl → qt, zero_add → qy
namespace Go.Proofs.YteccmcpaheepcaaGreatDoor
open Go.RowKit Abs
def PtrTo{α:Type}(enc:α→List Value)(K:List Nat)(M:Mem):Option α→Value→Prop
 |none,v=>v=.pointer none
 |some a,v=>∃b s,b∉K∧v=.pointer (some ⟨b,0,none⟩)∧M.get b=some (.cells false s (enc a))
structure PtrsAt{α:Type}(enc:α→List Value)(K:List Nat)(M:Mem)(l:List (Option α))(vs:List Value):Prop where
 len:vs.length=l.length
 at_:∀(i:Nat)(o:Option α),l[i]?=some o→∃v,vs[i]?=some v∧PtrTo enc K M o v
theorem PtrTo.same{α:Type}{enc:α→List Value}{K:List Nat}{M M':Mem}{o:Option α}{v:Value}(h:PtrTo enc K M o v)(hs:∀b x,b∉K→M.get b=some x→M'.get b=some x):PtrTo enc K M' o v:=by
 cases o with
 |none=>exact h
 |some a=>
  obtain⟨b,s,h1,h2,h3⟩:=h
  exact⟨b,s,h1,h2,hs b _ h1 h3⟩
theorem PtrsAt.same{α:Type}{enc:α→List Value}{K:List Nat}{M M':Mem}{l:List (Option α)}{vs:List Value}(h:PtrsAt enc K M l vs)(hs:∀b x,b∉K→M.get b=some x→M'.get b=some x):PtrsAt enc K M' l vs:=
 ⟨h.len,fun i o hi=>by obtain⟨v,h1,h2⟩:=h.at_ i o hi;exact⟨v,h1,h2.same hs⟩⟩
theorem PtrsAt.set{α:Type}{enc:α→List Value}{K:List Nat}{M:Mem}{l:List (Option α)}{vs:List Value}(h:PtrsAt enc K M l vs)(i:Nat)(o:Option α)(v:Value)(hv:PtrTo enc K M o v):PtrsAt enc K M (l.set i o) (vs.set i v):=
 ⟨by rw[qu,qu,h.len],fun j o' hj=>by
  by_cases e:i=j
  ·subst e
   have hl:i<l.length:=by have:=(qe.1 hj).1;rwa [qu]at this
   rw[qv hl]at hj
   cases hj
   exact⟨v,qv (by rw[h.len];exact hl),hv⟩
  ·rw[qw e]at hj ⊢
   exact h.at_ j o' hj⟩
def JQ(p:Nat)(D:Dep)(vo vk:List Value):List Value:=[.pointer (some ⟨p,0,none⟩),.string (str D.key),.int .i64 D.epoch]++(vo++(vk++[.int .i64 D.staged]))
structure DepAt(M:Mem)(P p q g:Nat)(d:Dsk)(D:Dep):Prop where
 dsk:DskAt M p q g d
 ok:D.Ok d.old.length
 row:∃s vo vk,M.get P=some (.cells false s (JQ p D vo vk))∧PtrsAt Rec.cells [P,p,q,g] M D.opn vo∧PtrsAt Ext.cells [P,p,q,g] M D.kept vk
 ne:P≠p∧P≠q∧P≠g
theorem DepAt.same{M M':Mem}{P p q g:Nat}{d:Dsk}{D:Dep}(h:DepAt M P p q g d D)(hs:∀b x,M.get b=some x→M'.get b=some x):DepAt M' P p q g d D:=
 ⟨h.dsk.same hs,h.ok,by
  obtain⟨s,vo,vk,h1,h2,h3⟩:=h.row
  exact⟨s,vo,vk,hs _ _ h1,h2.same fun b x _=>hs b x,h3.same fun b x _=>hs b x⟩,h.ne⟩
theorem DepAt.disk{M M':Mem}{P p q g:Nat}{d d':Dsk}{D:Dep}(h:DepAt M P p q g d D)(hd:DskAt M' p q g d')(hl:d'.old.length=d.old.length)(ho:Only [p,q,g] M M'):DepAt M' P p q g d' D:=
 ⟨hd,by rw[hl];exact h.ok,by
  obtain⟨s,vo,vk,h1,h2,h3⟩:=h.row
  have hk:∀b x,b∉ [P,p,q,g]→M.get b=some x→M'.get b=some x:=fun b x hb hx=>ho b x (by simp at hb ⊢;exact hb.2) hx
  exact⟨s,vo,vk,ho _ _ (by simp;exact h.ne) h1,h2.same hk,h3.same hk⟩,h.ne⟩
theorem depC_opn(p:Nat)(D:Dep)(vo vk:List Value)(hv:vo.length=4)(i:Nat)(hi:i<4):(JQ p D vo vk)[3+i]?=vo[i]?:=by
 unfold JQ
 rw[qk (by simp),qr (by simp;omega)]
 simp
theorem depC_kept(p:Nat)(D:Dep)(vo vk:List Value)(hv:vo.length=4)(hk:vk.length=8)(i:Nat)(hi:i<8):(JQ p D vo vk)[7+i]?=vk[i]?:=by
 unfold JQ
 rw[qk (by simp;omega),qk (by simp;omega),qr (by simp;omega)]
 simp[hv]
 congr 1
 omega
theorem Zt{α:Type}(f:α→Bool):∀(l:List (Option α))(i:Nat),(X0 f l i=none∧∀(j:Nat) a,l[j]?=some (some a)→f a=false)∨∃(j:Nat)(a:α),X0 f l i=some (i+j,a)∧l[j]?=some (some a)∧f a=true∧∀(k:Nat) b,k<j→l[k]?=some (some b)→f b=false
 | [],i=>.inl ⟨rfl,fun j a h=>by simp at h⟩
 |some a::r,i=>by
  unfold X0
  by_cases e:f a=true
  ·rw[if_pos e];exact .inr ⟨0,a,rfl,rfl,e,fun k b hk=>by omega⟩
  ·rw[if_neg e]
   have e':f a=false:=by simpa using e
   rcases Zt f r (i+1)with⟨h1,h2⟩|⟨j,b,h1,h2,h3,h4⟩
   ·refine .inl ⟨h1,fun j b hj=>?_⟩
    cases j with
    |zero=>simp at hj;subst hj;exact e'
    |succ j=>exact h2 j b (by simpa using hj)
   ·refine .inr ⟨j+1,b,by rw[h1];congr 2;omega,by simpa using h2,h3,fun k c hk hc=>?_⟩
    cases k with
    |zero=>simp at hc;subst hc;exact e'
    |succ k=>exact h4 k c (by omega) (by simpa using hc)
 |none::r,i=>by
  unfold X0
  rcases Zt f r (i+1)with⟨h1,h2⟩|⟨j,b,h1,h2,h3,h4⟩
  ·refine .inl ⟨h1,fun j b hj=>?_⟩
   cases j with
   |zero=>simp at hj
   |succ j=>exact h2 j b (by simpa using hj)
  ·refine .inr ⟨j+1,b,by rw[h1];congr 2;omega,by simpa using h2,h3,fun k c hk hc=>?_⟩
   cases k with
   |zero=>simp at hc
   |succ k=>exact h4 k c (by omega) (by simpa using hc)
theorem findAt_is{α:Type}{f:α→Bool}{l:List (Option α)}{j:Nat}{a:α}(h1:l[j]?=some (some a))(h2:f a=true)(h3:∀(k:Nat) b,k<j→l[k]?=some (some b)→f b=false):X0 f l 0=some (j,a):=by
 rcases Zt f l 0 with⟨_,h⟩|⟨j',a',e,h4,h5,h6⟩
 ·rw[h j a h1]at h2;cases h2
 ·rcases Nat.lt_trichotomy j j' with hl|hl|hl
  ·rw[h6 j a hl h1]at h2;cases h2
  ·subst hl;rw[h1]at h4;cases h4;rw[e,qy]
  ·rw[h3 j' a' hl h4]at h5;cases h5
theorem findAt_not{α:Type}{f:α→Bool}{l:List (Option α)}(h3:∀(k:Nat) b,l[k]?=some (some b)→f b=false):X0 f l 0=none:=by
 rcases Zt f l 0 with⟨h,_⟩|⟨j',a',e,h4,h5,h6⟩
 ·exact h
 ·rw[h3 j' a' h4]at h5;cases h5
def isRec(id:Int)(o:Option Rec):Bool:=match o with|some r=>decide (r.x.head.id=id)|none=>false
def isExt(id:Int)(o:Option Ext):Bool:=match o with|some x=>decide (x.head.id=id)|none=>false
theorem isrec_spec(o:Option Rec)(K:List Nat)(M:Mem)(v:Value)(hv:PtrTo Rec.cells K M o v)(b s:Nat)(ro:Bool)(id:Int)(hb:M.get b=some (.cells ro s [.int .i64 id])):
 Abs.Spec qc 161 [v,.pointer (some ⟨b,0,none⟩)] M fun u M'=>u=.bool (isRec id o)∧M'=M:=by
 refine UX Tryz.func161 Tryz.results161 Tryz.ntmps161 fun hc hx k=>?_
 have c2:cellIn 0 (some (.cells ro s [.int .i64 id]))=some (.int .i64 id):=rfl
 refine J0 (R0 ?_)
 cases o with
 |none=>
  obtain rfl:v=.pointer none:=hv
  refine J0 (D2 10 @hb @c2 ?_)
  refine T0 ?_
  exact⟨_,Thin.refl _,rfl,rfl⟩
 |some r=>
  obtain⟨b',s',_,rfl,hr⟩:=hv
  have c1:cellIn 0 (some (.cells false s' r.cells))=some (.int .i64 r.x.head.id):=rfl
  have e:(r.x.head.id==id)=isRec id (some r):=by
   show _=decide (r.x.head.id=id)
   rw[Bool.eq_iff_iff];simp
  refine J0 (D5 10 @hb @c2 @hr @c1 @e ?_)
  refine T0 ?_
  exact⟨_,Thin.refl _,rfl⟩
theorem isext_spec(o:Option Ext)(K:List Nat)(M:Mem)(v:Value)(hv:PtrTo Ext.cells K M o v)(b s:Nat)(ro:Bool)(id:Int)(hb:M.get b=some (.cells ro s [.int .i64 id])):
 Abs.Spec qc 163 [v,.pointer (some ⟨b,0,none⟩)] M fun u M'=>u=.bool (isExt id o)∧M'=M:=by
 refine UX Tryz.func163 Tryz.results163 Tryz.ntmps163 fun hc hx k=>?_
 have c2:cellIn 0 (some (.cells ro s [.int .i64 id]))=some (.int .i64 id):=rfl
 refine J0 (R0 ?_)
 cases o with
 |none=>
  obtain rfl:v=.pointer none:=hv
  refine J0 (D2 9 @hb @c2 ?_)
  refine T0 ?_
  exact⟨_,Thin.refl _,rfl,rfl⟩
 |some r=>
  obtain⟨b',s',_,rfl,hr⟩:=hv
  have c1:cellIn 0 (some (.cells false s' r.cells))=some (.int .i64 r.head.id):=rfl
  have e:(r.head.id==id)=isExt id (some r):=by
   show _=decide (r.head.id=id)
   rw[Bool.eq_iff_iff];simp
  refine J0 (D5 9 @hb @c2 @hr @c1 @e ?_)
  refine T0 ?_
  exact⟨_,Thin.refl _,rfl⟩
theorem place_rec{l:List (Option Rec)}{id:Int}{j:Nat}{a:Rec}(h1:l[j]?=some (some a))(h2:isRec id (some a)=true)(h3:∀(k:Nat) o,k<j→l[k]?=some o→isRec id o=false):Zi (X0 (fun x:Rec=>decide (x.x.head.id=id)) l 0)=(j:Int):=by
 rw[findAt_is (f:=fun x:Rec=>decide (x.x.head.id=id)) h1 h2 fun k b hk hb=>h3 k (some b) hk hb];rfl
theorem noplace_rec{l:List (Option Rec)}{id:Int}(h3:∀(k:Nat) o,l[k]?=some o→isRec id o=false):Zi (X0 (fun x:Rec=>decide (x.x.head.id=id)) l 0)= -1:=by
 rw[findAt_not (f:=fun x:Rec=>decide (x.x.head.id=id)) fun k b hb=>h3 k (some b) hb];rfl
theorem idxrec_spec(P off s0 b s c:Nat)(ro:Bool)(id:Int)(K:List Nat)(M:Mem)(C:List Value)(vs:List Value)(l:List (Option Rec))(hC:M.get P=some (.cells false s0 C))(hvs:∀(i:Nat) v,vs[i]?=some v→C[off+i]?=some v)(h:PtrsAt Rec.cells K M l vs)(hl:l.length≤1000)
 (hb:M.get b=some (.cells ro s [.int .i64 id])):
 Abs.Spec qc 160 [.slice (some ⟨P,off,none⟩) l.length c,.func (.func 161) #[] #[.pointer (some ⟨b,0,none⟩)]] M fun u M'=>u=.int .i64 (Zi (X0 (fun x:Rec=>decide (x.x.head.id=id)) l 0))∧M'=M:=by
 refine UX Tryz.func160 Tryz.results160 Tryz.ntmps160 fun hc hx k=>?_
 refine J0 (R0 ?_)
 refine J0 (J0 (R0 ?_))
 refine J8 (Jt (fun j f M'=>∃i:Nat,j=l.length-i∧f=[(0,.slice (some ⟨P,off,none⟩) l.length c),(1,.func (.func 161) #[] #[.pointer (some ⟨b,0,none⟩)]),(7,.int .i64 (l.length:Nat)),(8,.int .i64 (i:Nat))]∧i≤l.length∧
  (∀(k:Nat) o,k<i→l[k]?=some o→isRec id o=false)∧M'=M) l.length ?_ ?_)
 ·refine JK [0,1,7,8] ?_
  exact⟨M,Thin.refl _,0,rfl,rfl,by omega,fun k o hk=>by omega,rfl⟩
 ·rintro j f M' ⟨i,rfl,rfl,hi,hno,e9⟩
  replace e9:=e9.symm;subst e9
  refine J0 (R0 ?_)
  refine J0 (CC (decide ((i:Int)<(l.length:Int))) (fun hq=>J3 ?_) (fun hq=>Jp ?_))
  ·have hiL:=of_decide_eq_true hq
   obtain⟨o,ho⟩:∃o,l[i]?=some o:=⟨_,qj (by omega)⟩
   obtain⟨v,hv,hp⟩:=h.at_ i o ho
   have z0:(0:Int)≤(i:Int):=by omega
   have r1:cellIn (off+i) (some (.cells false s0 C))=some v:=hvs i v hv
   have w9:IntKind.i64.wrap ((i:Int)+1)=((i+1:Nat):Int):=by rw[Xl (by omega) (by omega)];omega
   simp only[zZ,reduceIte,yQ,yW,yX,yZ,yJ,yK,yV]
   refine J0 (J8 (J0 (R0 ?_)))
   refine J0 (R6 @z0 @hiL @and_self @hC @qi @r1 ?_)
   refine⟨by kernel_rfl,_,isrec_spec o K _ v hp b s ro id hb,?_⟩
   rintro _ M2 ⟨rfl,e9⟩;replace e9:=e9.symm;subst e9
   refine S0 ?_
   refine CC (isRec id o) (fun he=>J0 (J1 ?_)) (fun he=>J3 ?_)
   ·refine S0 ?_
    refine T0 ?_
    cases o with
    |none=>cases he
    |some a=>exact⟨_,Thin.refl _,by rw[place_rec ho he hno],rfl⟩
   ·simp only[zZ,reduceIte,yQ,yW,yX,yZ,yJ,yK,yV]
    refine R1 @w9 ?_
    refine JK [0,1,7,8] ?_
    refine⟨_,Thin.refl _,l.length-(i+1),⟨i+1,rfl,rfl,by omega,fun k o' hk ho'=>?_,rfl⟩,by omega⟩
    by_cases e:k=i
    ·subst e;rw[ho]at ho';cases ho';exact he
    ·exact hno k o' (by omega) ho'
  ·have hiL:=of_decide_eq_false hq
   simp only[zZ,reduceIte,yQ,yW,yX,yZ,yJ,yK,yV]
   refine J0 (R0 ?_)
   refine T0 ?_
   refine⟨_,Thin.refl _,?_,rfl⟩
   rw[noplace_rec fun k o ho=>hno k o (by have:=(qe.1 ho).1;omega) ho]
theorem place_ext{l:List (Option Ext)}{id:Int}{j:Nat}{a:Ext}(h1:l[j]?=some (some a))(h2:isExt id (some a)=true)(h3:∀(k:Nat) o,k<j→l[k]?=some o→isExt id o=false):Zi (X0 (fun x:Ext=>decide (x.head.id=id)) l 0)=(j:Int):=by
 rw[findAt_is (f:=fun x:Ext=>decide (x.head.id=id)) h1 h2 fun k b hk hb=>h3 k (some b) hk hb];rfl
theorem noplace_ext{l:List (Option Ext)}{id:Int}(h3:∀(k:Nat) o,l[k]?=some o→isExt id o=false):Zi (X0 (fun x:Ext=>decide (x.head.id=id)) l 0)= -1:=by
 rw[findAt_not (f:=fun x:Ext=>decide (x.head.id=id)) fun k b hb=>h3 k (some b) hb];rfl
theorem idxext_spec(P off s0 b s c:Nat)(ro:Bool)(id:Int)(K:List Nat)(M:Mem)(C:List Value)(vs:List Value)(l:List (Option Ext))(hC:M.get P=some (.cells false s0 C))(hvs:∀(i:Nat) v,vs[i]?=some v→C[off+i]?=some v)(h:PtrsAt Ext.cells K M l vs)(hl:l.length≤1000)
 (hb:M.get b=some (.cells ro s [.int .i64 id])):
 Abs.Spec qc 162 [.slice (some ⟨P,off,none⟩) l.length c,.func (.func 163) #[] #[.pointer (some ⟨b,0,none⟩)]] M fun u M'=>u=.int .i64 (Zi (X0 (fun x:Ext=>decide (x.head.id=id)) l 0))∧M'=M:=by
 refine UX Tryz.func162 Tryz.results162 Tryz.ntmps162 fun hc hx k=>?_
 refine J0 (R0 ?_)
 refine J0 (J0 (R0 ?_))
 refine J8 (Jt (fun j f M'=>∃i:Nat,j=l.length-i∧f=[(0,.slice (some ⟨P,off,none⟩) l.length c),(1,.func (.func 163) #[] #[.pointer (some ⟨b,0,none⟩)]),(7,.int .i64 (l.length:Nat)),(8,.int .i64 (i:Nat))]∧i≤l.length∧
  (∀(k:Nat) o,k<i→l[k]?=some o→isExt id o=false)∧M'=M) l.length ?_ ?_)
 ·refine JK [0,1,7,8] ?_
  exact⟨M,Thin.refl _,0,rfl,rfl,by omega,fun k o hk=>by omega,rfl⟩
 ·rintro j f M' ⟨i,rfl,rfl,hi,hno,e9⟩
  replace e9:=e9.symm;subst e9
  refine J0 (R0 ?_)
  refine J0 (CC (decide ((i:Int)<(l.length:Int))) (fun hq=>J3 ?_) (fun hq=>Jp ?_))
  ·have hiL:=of_decide_eq_true hq
   obtain⟨o,ho⟩:∃o,l[i]?=some o:=⟨_,qj (by omega)⟩
   obtain⟨v,hv,hp⟩:=h.at_ i o ho
   have z0:(0:Int)≤(i:Int):=by omega
   have r1:cellIn (off+i) (some (.cells false s0 C))=some v:=hvs i v hv
   have w9:IntKind.i64.wrap ((i:Int)+1)=((i+1:Nat):Int):=by rw[Xl (by omega) (by omega)];omega
   simp only[zZ,reduceIte,yQ,yW,yX,yZ,yJ,yK,yV]
   refine J0 (J8 (J0 (R0 ?_)))
   refine J0 (R6 @z0 @hiL @and_self @hC @qi @r1 ?_)
   refine⟨by kernel_rfl,_,isext_spec o K _ v hp b s ro id hb,?_⟩
   rintro _ M2 ⟨rfl,e9⟩;replace e9:=e9.symm;subst e9
   refine S0 ?_
   refine CC (isExt id o) (fun he=>J0 (J1 ?_)) (fun he=>J3 ?_)
   ·refine S0 ?_
    refine T0 ?_
    cases o with
    |none=>cases he
    |some a=>exact⟨_,Thin.refl _,by rw[place_ext ho he hno],rfl⟩
   ·simp only[zZ,reduceIte,yQ,yW,yX,yZ,yJ,yK,yV]
    refine R1 @w9 ?_
    refine JK [0,1,7,8] ?_
    refine⟨_,Thin.refl _,l.length-(i+1),⟨i+1,rfl,rfl,by omega,fun k o' hk ho'=>?_,rfl⟩,by omega⟩
    by_cases e:k=i
    ·subst e;rw[ho]at ho';cases ho';exact he
    ·exact hno k o' (by omega) ho'
  ·have hiL:=of_decide_eq_false hq
   simp only[zZ,reduceIte,yQ,yW,yX,yZ,yJ,yK,yV]
   refine J0 (R0 ?_)
   refine T0 ?_
   refine⟨_,Thin.refl _,?_,rfl⟩
   rw[noplace_ext fun k o ho=>hno k o (by have:=(qe.1 ho).1;omega) ho]
def DepOr(M:Mem)(P p q g:Nat)(d:Dsk):Option Dep→Value→Prop
 |none,v=>v=.pointer none
 |some D,v=>v=.pointer (some ⟨P,0,none⟩)∧DepAt M P p q g d D
theorem sl_A4(get:Nat→Option Blk)(P o:Nat):JY qc get 118 (.pointer (some ⟨P,o,none⟩)) none none=some (.slice (some ⟨P,o,none⟩) 4 4):=by kernel_rfl
theorem sl_A8(get:Nat→Option Blk)(P o:Nat):JY qc get 120 (.pointer (some ⟨P,o,none⟩)) none none=some (.slice (some ⟨P,o,none⟩) 8 8):=by kernel_rfl
theorem find_spec(P p q g:Nat)(d:Dsk)(D:Dep)(id:Int)(M:Mem)(h:DepAt M P p q g d D):
 Abs.Spec qc 74 [.pointer (some ⟨P,0,none⟩),.int .i64 id] M fun u M'=>u=.tuple #[.int .i64 (Zi (D.rec? id)),.int .i64 (Zi (D.ext? id))]∧More M M':=by
 refine UX Tryz.func74 Tryz.results74 Tryz.ntmps74 fun hc hx k=>?_
 have b1:QS qc 3 (.int .i64 id)=some (.cells false (J6 qc 3) [.int .i64 id]):=by rfl
 generalize J6 qc 3=s1 at b1
 refine J0 (R1 @b1 ?_)
 obtain⟨M1,hM1⟩:∃M1,M1=M.push (.cells false s1 [.int .i64 id]):=⟨_,rfl⟩
 obtain⟨b3,hb3⟩:∃b,b=M.size:=⟨_,rfl⟩
 have g3:M1.get b3=some (.cells false s1 [.int .i64 id]):=by rw[hM1,hb3,Mem.get_push_new]
 have mo:More M M1:=by rw[hM1];exact More.push _ _
 rw[←hM1,←hb3]
 have h1:=h.same mo.get
 obtain⟨s,vo,vk,hrow,ho,hk⟩:=h1.row
 have l4:vo.length=4:=by rw[ho.len,h1.ok.opn]
 have l8:vk.length=8:=by rw[hk.len,h1.ok.kept]
 have io:=idxrec_spec P 3 s b3 s1 4 false id _ M1 _ vo D.opn hrow (fun i v hv=>by
  have:=(qe.1 hv).1
  rw[depC_opn _ _ _ _ l4 _ (by omega)];exact hv) ho (by rw[h1.ok.opn];decide) g3
 have ik:=idxext_spec P 7 s b3 s1 8 false id _ M1 _ vk D.kept hrow (fun i v hv=>by
  have:=(qe.1 hv).1
  rw[depC_kept _ _ _ _ l4 l8 _ (by omega)];exact hv) hk (by rw[h1.ok.kept];decide) g3
 rw[h1.ok.opn]at io
 rw[h1.ok.kept]at ik
 refine J0 (J0 (R0 ?_))
 refine CF (J3 ?_)
 simp only[zZ,reduceIte,yQ,yW,yX,yZ,yJ,yK,yV]
 refine J0 (J1 ?_)
 simp only[zZ,reduceIte,yQ,yW,yX,yZ,yJ,yK,yV,zDk,Jc,Jb,Ja,J9,XQ,vFunc,sl_A4]
 refine K0 (io) ?_
 refine J0 (J1 ?_)
 simp only[zZ,reduceIte,yQ,yW,yX,yZ,yJ,yK,yV,zDk,Jc,Jb,Ja,J9,XQ,vFunc,sl_A8]
 refine K0 (ik) ?_
 refine J0 (R0 ?_)
 refine T0 ?_
 exact⟨_,Thin.refl _,rfl,mo⟩
theorem find_none(id:Int)(M:Mem):
 Abs.Spec qc 74 [.pointer none,.int .i64 id] M fun u M'=>u=.tuple #[.int .i64 (-1),.int .i64 (-1)]∧More M M':=by
 refine UX Tryz.func74 Tryz.results74 Tryz.ntmps74 fun hc hx k=>?_
 have b1:QS qc 3 (.int .i64 id)=some (.cells false (J6 qc 3) [.int .i64 id]):=by rfl
 generalize J6 qc 3=s1 at b1
 refine J0 (R1 @b1 ?_)
 refine J0 (J0 (R0 ?_))
 refine CT (J0 (R0 ?_))
 refine T0 ?_
 exact⟨_,Thin.refl _,More.push _ _⟩
theorem find_or(P p q g:Nat)(d:Dsk)(D:Option Dep)(v:Value)(id:Int)(M:Mem)(h:DepOr M P p q g d D v):
 Abs.Spec qc 74 [v,.int .i64 id] M fun u M'=>u=.tuple #[.int .i64 (Zi (D.bind fun D=>D.rec? id)),.int .i64 (Zi (D.bind fun D=>D.ext? id))]∧More M M':=by
 cases D with
 |none=>obtain rfl:v=_:=h;exact find_none id M
 |some D=>obtain⟨rfl,h⟩:=h;exact find_spec P p q g d D id M h
theorem V9{α:Type}(x:Nat×α):Zi (some x)=(x.1:Int):=rfl
theorem Va{α:Type}:Zi (none:Option (Nat×α))= -1:=rfl
theorem ZI{α:Type}{f:α→Bool}{l:List (Option α)}{j:Nat}{a:α}(h:X0 f l 0=some (j,a)):l[j]?=some (some a)∧f a=true:=by
 rcases Zt f l 0 with⟨h1,_⟩|⟨j',a',e,h4,h5,_⟩
 ·rw[h1]at h;cases h
 ·rw[e,qy]at h
  simp only[Option.some.injEq,Prod.mk.injEq]at h
  obtain⟨rfl,rfl⟩:=h
  exact⟨h4,h5⟩
theorem DepAt.extAt{M:Mem}{P p q g:Nat}{d:Dsk}{D:Dep}(h:DepAt M P p q g d D){j:Nat}{x:Ext}(hj:D.kept[j]?=some (some x)):
 j<8∧∃b s,cellIn (7+j) (M.get P)=some (.pointer (some ⟨b,0,none⟩))∧b∉ [P,p,q,g]∧M.get b=some (.cells false s x.cells):=by
 obtain⟨s,vo,vk,hrow,ho,hk⟩:=h.row
 have l4:vo.length=4:=by rw[ho.len,h.ok.opn]
 have l8:vk.length=8:=by rw[hk.len,h.ok.kept]
 have hj8:j<8:=by have:=(qe.1 hj).1;rwa [h.ok.kept]at this
 obtain⟨v,hv,b,s',hb,rfl,hg⟩:=hk.at_ j _ hj
 refine⟨hj8,b,s',?_,hb,hg⟩
 rw[hrow]
 show(JQ p D vo vk)[7+j]?=_
 rw[depC_kept _ _ _ _ l4 l8 _ hj8,hv]
theorem DepAt.recAt{M:Mem}{P p q g:Nat}{d:Dsk}{D:Dep}(h:DepAt M P p q g d D){j:Nat}{x:Rec}(hj:D.opn[j]?=some (some x)):
 j<4∧∃b s,cellIn (3+j) (M.get P)=some (.pointer (some ⟨b,0,none⟩))∧b∉ [P,p,q,g]∧M.get b=some (.cells false s x.cells):=by
 obtain⟨s,vo,vk,hrow,ho,hk⟩:=h.row
 have l4:vo.length=4:=by rw[ho.len,h.ok.opn]
 have hj4:j<4:=by have:=(qe.1 hj).1;rwa [h.ok.opn]at this
 obtain⟨v,hv,b,s',hb,rfl,hg⟩:=ho.at_ j _ hj
 refine⟨hj4,b,s',?_,hb,hg⟩
 rw[hrow]
 show(JQ p D vo vk)[3+j]?=_
 rw[depC_opn _ _ _ _ l4 _ hj4,hv]
def headOr(D:Option Dep)(id:Int):Header×Bool×Int:=match D with|none=>(noHead,false,8)|some D=>D.headAt id
theorem head_spec(P p q g:Nat)(d:Dsk)(D:Option Dep)(v:Value)(id:Int)(M:Mem)(h:DepOr M P p q g d D v):
 Abs.Spec qc 20 [v,.int .i64 id] M fun u M'=>u=.tuple #[.agg (headOr D id).1.cells.toArray,.bool (headOr D id).2.1,.int .i64 (headOr D id).2.2]∧More M M':=by
 refine UX Tryz.func20 Tryz.results20 Tryz.ntmps20 fun hc hx k=>?_
 have hal:Qd qc 33=some (.cells false (J6 qc 33) noHead.cells):=al_Hdr
 generalize J6 qc 33=s1 at hal
 obtain⟨r,hr⟩:∃r,r=headOr D id:=⟨_,rfl⟩
 rw[←hr]
 refine J0 (R1 @hal ?_)
 have hbd0:Qo qc 33 []=some (.agg noHead.cells.toArray):=by kernel_rfl
 have row7:∀h:Header,Jv 7 0 (some (.cells false s1 h.cells))=some (.agg h.cells.toArray):=fun _=>rfl
 have agg7:∀h:Header,(Value.agg h.cells.toArray).cells.toList=h.cells:=fun _=>rfl
 have put7:∀(M0:Mem)(b:Nat)(x y:Header),Ji 7 M0 b 0 y.cells (some (.cells false s1 x.cells))=some (M0.set b (some (.cells false s1 y.cells))):=fun _ _ _ _=>rfl
 obtain⟨b4,hb4⟩:∃b,b=M.size:=⟨_,rfl⟩
 obtain⟨M1,hM1⟩:∃M1,M1=M.push (.cells false s1 noHead.cells):=⟨_,rfl⟩
 have g4:M1.get b4=some (.cells false s1 noHead.cells):=by rw[hM1,hb4,Mem.get_push_new]
 have mo1:More M M1:=by rw[hM1];exact More.push _ _
 rw[←hM1,←hb4]
 have h1:DepOr M1 P p q g d D v:=by
  cases D with
  |none=>exact h
  |some D=>exact⟨h.1,h.2.same mo1.get⟩
 have fin:∀(M':Mem)(x y:Header),M'.get b4=some (.cells false s1 y.cells)→More M M'→(M'.set b4 (some (.cells false s1 x.cells))).get b4=some (.cells false s1 x.cells)∧More M (M'.set b4 (some (.cells false s1 x.cells))):=fun M' x y hg hm=>
  ⟨Mem.get_set_same hg _,fun b z hb=>by
   have:=Mem.get_lt hb
   rw[Mem.get_set_ne (by omega)];exact hm.get b z hb,by rw[Mem.size_set];exact hm.size⟩
 refine J0 (J0 (R0 ?_))
 refine⟨by kernel_rfl,_,find_or P p q g d D v id M1 h1,?_⟩
 rintro _ M2 ⟨rfl,mo2⟩
 have g42:=mo2.get _ _ g4
 have mo:=mo1.trans mo2
 refine S0 ?_
 cases hD:D with
 |none=>
  rw[hD]at hr
  have q1:decide ((Zi ((none:Option Dep).bind fun D=>D.ext? id))≥0)=false:=rfl
  have q2:decide ((Zi ((none:Option Dep).bind fun D=>D.rec? id))≥0)=false:=rfl
  refine J8 (J0 (R1 @q1 ?_))
  refine CF (J0 (R1 @q2 ?_))
  refine CF (J3 ?_)
  simp only[zZ,reduceIte,yQ,yW,yX,yZ,yJ,yK,yV]
  obtain⟨gs,ms⟩:=fin M2 noHead noHead g42 mo
  refine J0 (R4 @hbd0 @g42 @agg7 @put7 ?_)
  refine T3 @Q9 @gs @row7 ?_
  exact⟨_,Thin.refl _,by rw[hr];rfl,ms⟩
 |some D=>
  subst hD
  obtain⟨rfl,h2⟩:=h1
  have h3:=h2.same mo2.get
  have hr2:r=D.headAt id:=hr
  unfold Dep.headAt at hr2
  simp only[Option.bind_some]
  cases he:D.ext? id with
  |some y=>
   obtain⟨j,x⟩:=y
   rw[he]at hr2
   obtain⟨hj,b,s',r1,_,gb⟩:=h3.extAt (ZI he).1
   have rb:Jv 7 0 (some (.cells false s' x.cells))=some (.agg x.head.cells.toArray):=rfl
   have q1:decide ((j:Int)≥0)=true:=by simp
   have z0:(0:Int)≤(j:Int):=by omega
   have z8:(j:Int)<((8:Nat):Int):=by omega
   have z8':(j:Int)<8:=by omega
   obtain⟨gs,ms⟩:=fin M2 x.head noHead g42 mo
   simp only[V9]
   refine J8 (J0 (R1 @q1 ?_))
   refine CT (J0 (J1 ?_))
   simp only[zZ,reduceIte,yQ,yW,yX,yZ,yJ,yK,yV,zDk,Jc,Jb,Ja,J9,XQ,z0,z8,z8',and_self,qi,r1,gb,rb,g42,agg7,put7]
   refine T3 @Q9 @gs @row7 ?_
   exact⟨_,Thin.refl _,by rw[hr2],ms⟩
  |none=>
   rw[he]at hr2
   have q1:decide ((-1:Int)≥0)=false:=rfl
   simp only[Va]
   refine J8 (J0 (R1 @q1 ?_))
   refine CF (J0 (J1 ?_))
   cases hc2:D.rec? id with
   |some y=>
    obtain⟨j,x⟩:=y
    rw[hc2]at hr2
    obtain⟨hj,b,s',r1,_,gb⟩:=h3.recAt (ZI hc2).1
    have rb:Jv 7 0 (some (.cells false s' x.cells))=some (.agg x.x.head.cells.toArray):=rfl
    have q2:decide ((j:Int)≥0)=true:=by simp
    have z0:(0:Int)≤(j:Int):=by omega
    have z8:(j:Int)<((4:Nat):Int):=by omega
    have z8':(j:Int)<4:=by omega
    obtain⟨gs,ms⟩:=fin M2 x.x.head noHead g42 mo
    refine S2 @V9 @q2 ?_
    refine CT (J0 (J1 ?_))
    simp only[zZ,reduceIte,yQ,yW,yX,yZ,yJ,yK,yV,zDk,Jc,Jb,Ja,J9,XQ,z0,z8,z8',and_self,qi,r1,gb,rb,g42,agg7,put7]
    refine T3 @Q9 @gs @row7 ?_
    exact⟨_,Thin.refl _,by rw[hr2],ms⟩
   |none=>
    rw[hc2]at hr2
    obtain⟨gs,ms⟩:=fin M2 noHead noHead g42 mo
    refine S2 @Va @q1 ?_
    refine CF (J3 ?_)
    simp only[zZ,reduceIte,yQ,yW,yX,yZ,yJ,yK,yV]
    refine J0 (R4 @hbd0 @g42 @agg7 @put7 ?_)
    refine T3 @Q9 @gs @row7 ?_
    exact⟨_,Thin.refl _,by rw[hr2],ms⟩
theorem depoch_spec(P p q g:Nat)(d:Dsk)(D:Option Dep)(v:Value)(M:Mem)(h:DepOr M P p q g d D v):
 Abs.Spec qc 28 [v] M fun u M'=>u=.int .i64 ((D.map Dep.epoch).getD 0)∧M'=M:=by
 refine UX Tryz.func28 Tryz.results28 Tryz.ntmps28 fun hc hx k=>?_
 refine J0 (R0 ?_)
 cases D with
 |none=>
  obtain rfl:v=_:=h
  refine J0 (J0 (R0 ?_))
  refine CT (J0 (R0 ?_))
  refine T0 ?_
  exact⟨_,Thin.refl _,rfl,rfl⟩
 |some D=>
  obtain⟨rfl,h⟩:=h
  obtain⟨s,vo,vk,hrow,ho,hk⟩:=h.row
  have c2:cellIn 2 (some (.cells false s (JQ p D vo vk)))=some (.int .i64 D.epoch):=rfl
  refine J0 (J0 (R0 ?_))
  refine CF (J3 ?_)
  simp only[zZ,reduceIte,yQ,yW,yX,yZ,yJ,yK,yV]
  refine J0 (R2 @hrow @c2 ?_)
  refine T0 ?_
  exact⟨_,Thin.refl _,rfl,rfl⟩
theorem depC_staged(p:Nat)(D:Dep)(vo vk:List Value)(hv:vo.length=4)(hk:vk.length=8):(JQ p D vo vk)[15]?=some (.int .i64 D.staged):=by
 unfold JQ
 rw[qk (by simp),qk (by simp;omega),qk (by simp;omega)]
 simp[hv,hk]
theorem dstaged_spec(P p q g:Nat)(d:Dsk)(D:Option Dep)(v:Value)(M:Mem)(h:DepOr M P p q g d D v):
 Abs.Spec qc 29 [v] M fun u M'=>u=.int .i64 ((D.map Dep.staged).getD 0)∧M'=M:=by
 refine UX Tryz.func29 Tryz.results29 Tryz.ntmps29 fun hc hx k=>?_
 refine J0 (R0 ?_)
 cases D with
 |none=>
  obtain rfl:v=_:=h
  refine J0 (J0 (R0 ?_))
  refine CT (J0 (R0 ?_))
  refine T0 ?_
  exact⟨_,Thin.refl _,rfl,rfl⟩
 |some D=>
  obtain⟨rfl,h⟩:=h
  obtain⟨s,vo,vk,hrow,ho,hk⟩:=h.row
  have c2:cellIn 15 (some (.cells false s (JQ p D vo vk)))=some (.int .i64 D.staged):=depC_staged p D vo vk (by rw[ho.len,h.ok.opn]) (by rw[hk.len,h.ok.kept])
  refine J0 (J0 (R0 ?_))
  refine CF (J3 ?_)
  simp only[zZ,reduceIte,yQ,yW,yX,yZ,yJ,yK,yV]
  refine J0 (R2 @hrow @c2 ?_)
  refine T0 ?_
  exact⟨_,Thin.refl _,rfl,rfl⟩
theorem QH(d:Dsk)(i:Int)(x:List UInt8):(d.write i x).1.old.length=d.old.length:=by
 unfold Dsk.write
 split
 ·rfl
 ·split
  ·rfl
  ·split
   ·rw[Ql]
   ·show(d.burnt.put _ _).old.length=_
    unfold Dsk.put
    rw[Ql]
theorem sync_len(d:Dsk):d.sync.1.old.length=d.old.length:=by
 unfold Dsk.sync
 split
 ·rfl
 ·split
  ·rw[Ql]
  ·show d.burnt.synced.old.length=_
   unfold Dsk.synced
   simp[Ql]
theorem note_spec(P p q g:Nat)(d:Dsk)(D:Dep)(M:Mem)(h:DepAt M P p q g d D)(i:Nat)(hi:i<4)(r:Rec)(hr:r.may=true):
 Abs.Spec qc 61 [.pointer (some ⟨P,0,none⟩),.int .i64 (i:Nat),.agg r.cells.toArray] M fun u M'=>u=.int .i64 (d.write ((1+i:Nat):Int) (JW r)).2∧DepAt M' P p q g (d.write ((1+i:Nat):Int) (JW r)).1 D∧Only [p,q,g] M M'∧M.size≤M'.size:=by
 obtain⟨W,hW⟩:∃W,W=d.write ((1+i:Nat):Int) (JW r):=⟨_,rfl⟩
 rw[←hW]
 have hlen:W.1.old.length=d.old.length:=by rw[hW];exact QH _ _ _
 refine UX Tryz.func61 Tryz.results61 Tryz.ntmps61 fun hc hx k=>?_
 have bx:QS qc 132 (.agg r.cells.toArray)=some (.cells false (J6 qc 132) r.cells):=bx_Rec _ rfl
 generalize J6 qc 132=s1 at bx
 have row13:Jv 13 0 (some (.cells false s1 r.cells))=some (.agg r.cells.toArray):=rfl
 obtain⟨M1,hM1⟩:∃M1,M1=M.push (.cells false s1 r.cells):=⟨_,rfl⟩
 have mo:More M M1:=by rw[hM1];exact More.push _ _
 have hs1:M1.size=M.size+1:=by rw[hM1,Mem.size_push]
 have g1:M1.get M.size=some (.cells false s1 r.cells):=by rw[hM1,Mem.get_push_new]
 have ho1:Only [p,q,g] M M1:=fun b x _ hb=>mo.get b x hb
 have h1:=h.same mo.get
 obtain⟨s,vo,vk,hrow,ho,hk⟩:=h1.row
 have c0:cellIn 0 (some (.cells false s (JQ p D vo vk)))=some (dp p):=rfl
 have erec:recT r=str (JW r):=if_pos hr
 have w1:IntKind.i64.wrap (1+(i:Int))=((1+i:Nat):Int):=by rw[Xl (by omega) (by omega)];omega
 have jl:(JW r).length≤1000000:=by
  have hmx:JB r.x=true:=by unfold Rec.may at hr;rw[Bool.and_eq_true]at hr;exact hr.1
  have hl:=Kh (Kd hmx).1
  unfold JW
  simp only[qp,hl,Sha.fixed_length,U5]
  decide
 refine J0 (R1 @bx ?_)
 rw[←hM1]
 refine J0 (R2 @g1 @row13 ?_)
 refine K0 (jput_at r _) ?_
 refine J0 (R4 @hrow @c0 @w1 @erec ?_)
 refine⟨by kernel_rfl,_,Z1 _ p q g d h1.dsk ((1+i:Nat):Int) (JW r) jl,?_⟩
 rintro _ M2 ⟨rfl,hd2,ho2,hs2⟩
 rw[←hW]at hd2 ⊢
 refine S0 ?_
 refine T0 ?_
 have ho2':Only [p,q,g] M1 M2:=ho2.mono (by simp)
 exact⟨_,Thin.refl _,h1.disk hd2 hlen ho2',ho1.trans ho2',by omega⟩
theorem PtrsAt.only{α:Type}{enc:α→List Value}{K l:List Nat}{M M':Mem}{L:List (Option α)}{vs:List Value}(h:PtrsAt enc K M L vs)(hs:Only l M M')(hl:∀b∈l,b∈K):PtrsAt enc K M' L vs:=
 h.same fun b x hb hx=>hs b x (fun hm=>hb (hl b hm)) hx
theorem depC_setK(p:Nat)(D:Dep)(vo vk:List Value)(hv:vo.length=4)(hk:vk.length=8)(i:Nat)(hi:i<8)(w:Value)(x:Option Ext):(JQ p D vo vk).set (7+i) w=JQ p { D with kept:=D.kept.set i x } vo (vk.set i w):=by
 unfold JQ
 rw[qo _ _ (by simp;omega),qo _ _ (by simp;omega),List.set_append_left _ _ (by simp;omega)]
 simp[hv]
 congr 1
 omega
theorem depC_setO(p:Nat)(D:Dep)(vo vk:List Value)(hv:vo.length=4)(i:Nat)(hi:i<4)(w:Value)(x:Option Rec):(JQ p D vo vk).set (3+i) w=JQ p { D with opn:=D.opn.set i x } (vo.set i w) vk:=by
 unfold JQ
 rw[qo _ _ (by simp),List.set_append_left _ _ (by simp;omega)]
 simp
theorem VX(p:Nat)(D:Dep)(vo vk:List Value)(hv:vo.length=4)(hk:vk.length=8):(JQ p D vo vk).length=16:=by
 unfold JQ;simp[hv,hk]
def fitX(key:List UInt8)(n:Nat)(x:Ext):Prop:=x.head.verify key=0∧13≤x.base∧x.base+x.head.n≤(n:Int)
theorem Dep.Ok.setK{D:Dep}{n:Nat}(h:D.Ok n)(i:Nat)(o:Option Ext)(ho:∀x,o=some x→fitX D.key n x):Dep.Ok { D with kept:=D.kept.set i o } n:=
 ⟨h.opn,by rw[qu];exact h.kept,h.fitO,fun x hx=>by
  rcases qx hx with hx|hx
  ·exact h.fitK x hx
  ·exact ho x hx.symm⟩
theorem Dep.Ok.setO{D:Dep}{n:Nat}(h:D.Ok n)(i:Nat)(o:Option Rec)(ho:∀r,o=some r→fitX D.key n r.x∧(r.got.length:Int)=r.x.head.n):Dep.Ok { D with opn:=D.opn.set i o } n:=
 ⟨by rw[qu];exact h.opn,h.kept,fun x hx=>by
  rcases qx hx with hx|hx
  ·exact h.fitO x hx
  ·obtain⟨⟨a,b,c⟩,d⟩:=ho x hx.symm;exact⟨a,b,c,d⟩,h.fitK⟩
theorem DepAt.turnK{M:Mem}{P p q g:Nat}{d:Dsk}{D:Dep}(h:DepAt M P p q g d D){s:Nat}{vo vk:List Value}(ho:PtrsAt Rec.cells [P,p,q,g] M D.opn vo)(hk:PtrsAt Ext.cells [P,p,q,g] M D.kept vk)
 (hrow:M.get P=some (.cells false s (JQ p D vo vk))) (i:Nat) (hi:i<8) (o:Option Ext) (hox:∀x,o=some x→fitX D.key d.old.length x) (w:Value) (hw:PtrTo Ext.cells [P,p,q,g] M o w):
 DepAt (M.set P (some (.cells false s ((JQ p D vo vk).set (7+i) w)))) P p q g d { D with kept:=D.kept.set i o }:=by
 have l4:vo.length=4:=by rw[ho.len,h.ok.opn]
 have l8:vk.length=8:=by rw[hk.len,h.ok.kept]
 have hon:Only [P] M (M.set P (some (.cells false s ((JQ p D vo vk).set (7+i) w)))):=Only.set (by simp) _
 refine⟨h.dsk.only hon (by simp;exact Ne.symm h.ne.1) (by simp;exact Ne.symm h.ne.2.1) (by simp;exact Ne.symm h.ne.2.2),h.ok.setK i o hox,⟨s,vo,vk.set i w,?_,ho.only hon (by simp),(hk.set i o w hw).only hon (by simp)⟩,h.ne⟩
 rw[Mem.get_set_same hrow,depC_setK p D vo vk l4 l8 i hi w o]
theorem DepAt.turnO{M:Mem}{P p q g:Nat}{d:Dsk}{D:Dep}(h:DepAt M P p q g d D){s:Nat}{vo vk:List Value}(ho:PtrsAt Rec.cells [P,p,q,g] M D.opn vo)(hk:PtrsAt Ext.cells [P,p,q,g] M D.kept vk)
 (hrow:M.get P=some (.cells false s (JQ p D vo vk))) (i:Nat) (hi:i<4) (o:Option Rec) (hox:∀r,o=some r→fitX D.key d.old.length r.x∧(r.got.length:Int)=r.x.head.n) (w:Value) (hw:PtrTo Rec.cells [P,p,q,g] M o w):
 DepAt (M.set P (some (.cells false s ((JQ p D vo vk).set (3+i) w)))) P p q g d { D with opn:=D.opn.set i o }:=by
 have l4:vo.length=4:=by rw[ho.len,h.ok.opn]
 have hon:Only [P] M (M.set P (some (.cells false s ((JQ p D vo vk).set (3+i) w)))):=Only.set (by simp) _
 refine⟨h.dsk.only hon (by simp;exact Ne.symm h.ne.1) (by simp;exact Ne.symm h.ne.2.1) (by simp;exact Ne.symm h.ne.2.2),h.ok.setO i o hox,⟨s,vo.set i w,vk,?_,(ho.set i o w hw).only hon (by simp),hk.only hon (by simp)⟩,h.ne⟩
 rw[Mem.get_set_same hrow,depC_setO p D vo vk l4 i hi w o]
theorem keep_rest{d:Dsk}{D:Dep}{i:Nat}{x:Ext}:Dep.keep d D i x=(if(d.write ((5+i:Nat):Int) (JD x)).2≠0 then((d.write ((5+i:Nat):Int) (JD x)).1,D,(d.write ((5+i:Nat):Int) (JD x)).2)else
 if((d.write ((5+i:Nat):Int) (JD x)).1.sync).2≠0 then(((d.write ((5+i:Nat):Int) (JD x)).1.sync).1,D,((d.write ((5+i:Nat):Int) (JD x)).1.sync).2)else
 (((d.write ((5+i:Nat):Int) (JD x)).1.sync).1,{ D with kept:=D.kept.set i (some x) },0)):=rfl
theorem keep_spec(P p q g:Nat)(d:Dsk)(D:Dep)(M:Mem)(h:DepAt M P p q g d D)(i:Nat)(hi:i<8)(x:Ext)(hm:JB x=true)(hf:fitX D.key d.old.length x):
 Abs.Spec qc 80 [.pointer (some ⟨P,0,none⟩),.int .i64 (i:Nat),.agg x.cells.toArray] M fun u M'=>u=.int .i64 (Dep.keep d D i x).2.2∧DepAt M' P p q g (Dep.keep d D i x).1 (Dep.keep d D i x).2.1∧Only [P,p,q,g] M M'∧M.size≤M'.size:=by
 obtain⟨Z,hZ⟩:∃Z,Z=Dep.keep d D i x:=⟨_,rfl⟩
 rw[←hZ]
 rw[keep_rest]at hZ
 obtain⟨W,hW⟩:∃W,W=d.write ((5+i:Nat):Int) (JD x):=⟨_,rfl⟩
 rw[←hW]at hZ
 obtain⟨Y,hY⟩:∃Y,Y=W.1.sync:=⟨_,rfl⟩
 rw[←hY]at hZ
 have hlen:W.1.old.length=d.old.length:=by rw[hW];exact QH _ _ _
 have hlen2:Y.1.old.length=W.1.old.length:=by rw[hY];exact sync_len _
 refine UX Tryz.func80 Tryz.results80 Tryz.ntmps80 fun hc hx k=>?_
 have bx:QS qc 102 (.agg x.cells.toArray)=some (.cells false (J6 qc 102) x.cells):=Kn _ rfl
 generalize J6 qc 102=s1 at bx
 have row8:Jv 8 0 (some (.cells false s1 x.cells))=some (.agg x.cells.toArray):=rfl
 have q00:((0:Int) !=0)=false:=rfl
 obtain⟨M1,hM1⟩:∃M1,M1=M.push (.cells false s1 x.cells):=⟨_,rfl⟩
 obtain⟨b5,hb5⟩:∃b,b=M.size:=⟨_,rfl⟩
 have mo:More M M1:=by rw[hM1];exact More.push _ _
 have hs1:M1.size=M.size+1:=by rw[hM1,Mem.size_push]
 have g1:M1.get b5=some (.cells false s1 x.cells):=by rw[hM1,hb5,Mem.get_push_new]
 have ho1:Only [P,p,q,g] M M1:=fun b x _ hb=>mo.get b x hb
 have nP:b5∉ [P,p,q,g]:=by
  obtain⟨_,_,_,e,_⟩:=h.row
  have l1:=Mem.get_lt e
  obtain⟨_,e⟩:=h.dsk.row
  have l2:=Mem.get_lt e
  have l3:=Mem.get_lt h.dsk.kv
  have l4:=Mem.get_lt h.dsk.old
  simp only[qI,qC,or_false]
  omega
 have h1:=h.same mo.get
 obtain⟨s,vo,vk,hrow,ho,hk⟩:=h1.row
 have c0:∀vo vk,cellIn 0 (some (.cells false s (JQ p D vo vk)))=some (dp p):=fun _ _=>rfl
 have erec:extT x=str (JD x):=if_pos hm
 have w1:IntKind.i64.wrap (5+(i:Int))=((5+i:Nat):Int):=by rw[Xl (by omega) (by omega)];omega
 have jl:(JD x).length≤1000000:=by rw[catText_len hm];decide
 have tail3:∀{M' M'':Mem},Only [p,q,g] M' M''→Only [P,p,q,g] M' M'':=fun h=>h.mono (by simp)
 refine J0 (R1 @bx ?_)
 rw[←hM1,←hb5]
 refine J0 (R2 @g1 @row8 ?_)
 refine K0 (cput_at x _) ?_
 refine J0 (J0 (R4 @hrow @c0 @w1 @erec ?_))
 refine⟨by kernel_rfl,_,Z1 _ p q g d h1.dsk ((5+i:Nat):Int) (JD x) jl,?_⟩
 rintro _ M2 ⟨rfl,hd2,ho2,hs2⟩
 rw[←hW]at hd2 ⊢
 have ho2':Only [p,q,g] M1 M2:=ho2.mono (by simp)
 have h2:=h1.disk hd2 hlen ho2'
 refine S0 ?_
 refine J0 (R0 ?_)
 refine CC (W.2 !=0) (fun hq=>J0 (J1 ?_)) (fun hq=>J3 ?_)
 ·rw[if_pos (by simpa using hq)]at hZ
  refine S0 ?_
  refine T0 ?_
  subst hZ
  exact⟨_,Thin.refl _,rfl,h2,ho1.trans (tail3 ho2'),by omega⟩
 rw[if_neg (by simpa using hq)]at hZ
 obtain⟨s2,vo2,vk2,hrow2,ho2r,hk2⟩:=h2.row
 have c02:cellIn 0 (some (.cells false s2 (JQ p D vo2 vk2)))=some (dp p):=rfl
 simp only[zZ,reduceIte,yQ,yW,yX,yZ,yJ,yK,yV]
 refine J0 (J0 (R2 @hrow2 @c02 ?_))
 refine⟨by kernel_rfl,_,sync_spec _ p q g W.1 h2.dsk,?_⟩
 rintro _ M3 ⟨rfl,hd3,ho3,hs3⟩
 rw[←hY]at hd3 ⊢
 have h3:=h2.disk hd3 hlen2 ho3
 refine S0 ?_
 refine J0 (R0 ?_)
 refine CC (Y.2 !=0) (fun hq=>J0 (J1 ?_)) (fun hq=>J3 ?_)
 ·rw[if_pos (by simpa using hq)]at hZ
  refine S0 ?_
  refine T0 ?_
  subst hZ
  exact⟨_,Thin.refl _,rfl,h3,(ho1.trans (tail3 ho2')).trans (tail3 ho3),by omega⟩
 rw[if_neg (by simpa using hq)]at hZ
 obtain⟨s3,vo3,vk3,hrow3,ho3r,hk3⟩:=h3.row
 have l4:vo3.length=4:=by rw[ho3r.len,h3.ok.opn]
 have l8:vk3.length=8:=by rw[hk3.len,h3.ok.kept]
 have ln:=VX p D vo3 vk3 l4 l8
 have z0:(0:Int)≤(i:Int):=by omega
 have z8:(i:Int)<((8:Nat):Int):=by omega
 have z8':(i:Int)<8:=by omega
 have hput:Ji 1 M3 P (7+i) [.pointer (some ⟨b5,0,none⟩)] (some (.cells false s3 (JQ p D vo3 vk3)))=some (M3.set P (some (.cells false s3 ((JQ p D vo3 vk3).set (7+i) (.pointer (some ⟨b5,0,none⟩)))))):=by
  simp only[Ji]
  rw[if_pos ⟨rfl,by show 7+i+1≤(JQ p D vo3 vk3).length;omega,rfl⟩]
  rfl
 have g53:M3.get b5=some (.cells false s1 x.cells):=ho3 _ _ (by simp at nP ⊢;exact nP.2) (ho2' _ _ (by simp at nP ⊢;exact nP.2) g1)
 have hfin:=h3.turnK ho3r hk3 hrow3 i hi (some x) (fun y hy=>by cases hy;rw[hlen2,hlen];exact hf) (.pointer (some ⟨b5,0,none⟩)) ⟨b5,s1,nP,rfl,g53⟩
 have hon:Only [P,p,q,g] M3 (M3.set P (some (.cells false s3 ((JQ p D vo3 vk3).set (7+i) (.pointer (some ⟨b5,0,none⟩)))))):=Only.set (by simp) _
 simp only[zZ,reduceIte,yQ,yW,yX,yZ,yJ,yK,yV]
 refine J0 (R7 @hrow3 @z0 @z8 @z8' @and_self @qi @hput ?_)
 refine J0 (R0 ?_)
 refine T0 ?_
 subst hZ
 exact⟨_,Thin.refl _,rfl,hfin,((ho1.trans (tail3 ho2')).trans (tail3 ho3)).trans hon,by rw[Mem.size_set];omega⟩
theorem depC_setS(p:Nat)(D:Dep)(vo vk:List Value)(hv:vo.length=4)(hk:vk.length=8)(n:Int):(JQ p D vo vk).set 15 (.int .i64 n)=JQ p { D with staged:=n } vo vk:=by
 unfold JQ
 rw[qo _ _ (by simp),qo _ _ (by simp;omega),qo _ _ (by simp;omega)]
 simp[hv,hk]
theorem DepAt.turnS{M:Mem}{P p q g:Nat}{d:Dsk}{D:Dep}(h:DepAt M P p q g d D){s:Nat}{vo vk:List Value}(ho:PtrsAt Rec.cells [P,p,q,g] M D.opn vo)(hk:PtrsAt Ext.cells [P,p,q,g] M D.kept vk)
 (hrow:M.get P=some (.cells false s (JQ p D vo vk))) (n:Int):
 DepAt (M.set P (some (.cells false s ((JQ p D vo vk).set 15 (.int .i64 n))))) P p q g d { D with staged:=n }:=by
 have l4:vo.length=4:=by rw[ho.len,h.ok.opn]
 have l8:vk.length=8:=by rw[hk.len,h.ok.kept]
 have hon:Only [P] M (M.set P (some (.cells false s ((JQ p D vo vk).set 15 (.int .i64 n))))):=Only.set (by simp) _
 refine⟨h.dsk.only hon (by simp;exact Ne.symm h.ne.1) (by simp;exact Ne.symm h.ne.2.1) (by simp;exact Ne.symm h.ne.2.2),⟨h.ok.opn,h.ok.kept,h.ok.fitO,h.ok.fitK⟩,⟨s,vo,vk,?_,ho.only hon (by simp),hk.only hon (by simp)⟩,h.ne⟩
 rw[Mem.get_set_same hrow,depC_setS p D vo vk l4 l8]
def NoPt(M:Mem)(P b:Nat):Prop:=∀i,cellIn i (M.get P)≠some (.pointer (some ⟨b,0,none⟩))
theorem PtrsAt.ne{α:Type}{enc:α→List Value}{K:List Nat}{M:Mem}{l:List (Option α)}{vs:List Value}(h:PtrsAt enc K M l vs){b:Nat}(hb:M.size≤b):Value.pointer (some ⟨b,0,none⟩)∉vs:=by
 intro hm
 obtain⟨i,hi,e⟩:=List.getElem_of_mem hm
 have hil:i<l.length:=by rw[←h.len];exact hi
 obtain⟨v,hv,hp⟩:=h.at_ i _ (qj hil)
 rw[qj hi,e]at hv
 cases hv
 cases ho:l[i]with
 |none=>rw[ho]at hp;cases hp
 |some a=>
  rw[ho]at hp
  obtain⟨b',s,_,e2,hg⟩:=hp
  cases e2
  have:=Mem.get_lt hg
  omega
theorem DepAt.noPt{M:Mem}{P p q g:Nat}{d:Dsk}{D:Dep}(h:DepAt M P p q g d D){b:Nat}(hb:M.size≤b):NoPt M P b:=by
 obtain⟨s,vo,vk,hrow,ho,hk⟩:=h.row
 intro i hi
 rw[hrow]at hi
 have hi:(JQ p D vo vk)[i]?=some (.pointer (some ⟨b,0,none⟩)):=hi
 have hm:=qF hi
 unfold JQ at hm
 obtain⟨_,e⟩:=h.dsk.row
 have lp:=Mem.get_lt e
 have n1:=ho.ne hb
 have n2:=hk.ne hb
 simp only[List.mem_append,qI,qC,or_false,n1,n2,false_or,or_self]at hm
 rcases hm with(hm|hm|hm)|hm
 ·cases hm;omega
 ·cases hm
 ·cases hm
 ·cases hm
theorem NoPt.same{M M':Mem}{P b:Nat}(h:NoPt M P b)(hs:M'.get P=M.get P):NoPt M' P b:=by
 intro i;rw[hs];exact h i
theorem DepAt.off{M:Mem}{P p q g:Nat}{d:Dsk}{D:Dep}(h:DepAt M P p q g d D){b:Nat}(hb:b∉ [P,p,q,g])(hn:NoPt M P b)(o:Option Blk):DepAt (M.set b o) P p q g d D:=by
 obtain⟨s,vo,vk,hrow,ho,hk⟩:=h.row
 have l4:vo.length=4:=by rw[ho.len,h.ok.opn]
 have l8:vk.length=8:=by rw[hk.len,h.ok.kept]
 have on:Only [b] M (M.set b o):=Only.set (by simp) _
 simp only[qI,qC,or_false,not_or]at hb
 refine⟨h.dsk.only on (by simp;exact Ne.symm hb.2.1) (by simp;exact Ne.symm hb.2.2.1) (by simp;exact Ne.symm hb.2.2.2),h.ok,⟨s,vo,vk,on _ _ (by simp;exact Ne.symm hb.1) hrow,⟨ho.len,fun i oo hi=>?_⟩,⟨hk.len,fun i oo hi=>?_⟩⟩,h.ne⟩
 ·obtain⟨v,hv,hp⟩:=ho.at_ i oo hi
  refine⟨v,hv,?_⟩
  cases oo with
  |none=>exact hp
  |some a=>
   obtain⟨b',s',hK,rfl,hg⟩:=hp
   have hil:=(qe.1 hv).1
   have hne:b'≠b:=fun e=>hn (3+i) (by
    rw[hrow]
    show(JQ p D vo vk)[3+i]?=_
    rw[depC_opn _ _ _ _ l4 _ (by omega),hv,e])
   exact⟨b',s',hK,rfl,on _ _ (by simp;exact hne) hg⟩
 ·obtain⟨v,hv,hp⟩:=hk.at_ i oo hi
  refine⟨v,hv,?_⟩
  cases oo with
  |none=>exact hp
  |some a=>
   obtain⟨b',s',hK,rfl,hg⟩:=hp
   have hil:=(qe.1 hv).1
   have hne:b'≠b:=fun e=>hn (7+i) (by
    rw[hrow]
    show(JQ p D vo vk)[7+i]?=_
    rw[depC_kept _ _ _ _ l4 l8 _ (by omega),hv,e])
   exact⟨b',s',hK,rfl,on _ _ (by simp;exact hne) hg⟩
theorem stage_rest{d:Dsk}{D:Dep}{k:Nat}{r:Rec}{i:Int}{s:List UInt8}{W Y U:Dsk×Int}(hW:W=d.write (r.x.base+i) s)(hY:Y=W.1.sync)(hU:U=Y.1.write ((1+k:Nat):Int) (JW { r with got:=r.got.set i.toNat true })):
 Dep.staged1 d D k r i s=(if W.2≠0 then(W.1,D,W.2)else if Y.2≠0 then(Y.1,{ D with staged:=D.staged+1 },Y.2)else if U.2≠0 then(U.1,{ D with staged:=D.staged+1 },U.2)else
  (U.1,{ D with staged:=D.staged+1,opn:=D.opn.set k (some { r with got:=r.got.set i.toNat true }) },0)):=by
 subst hW hY hU;rfl
theorem stage_spec(P p q g:Nat)(d:Dsk)(D:Dep)(id i:Int)(t:List UInt8)(ht:t.length≤1000000)(hst: -1000000≤D.staged∧D.staged≤1000000000)(M:Mem)(h:DepAt M P p q g d D):
 Abs.Spec qc 24 [.pointer (some ⟨P,0,none⟩),.int .i64 id,.int .i64 i,.string (str t)] M fun u M'=>u=.int .i64 (Dep.stage d D id i t).2.2∧DepAt M' P p q g (Dep.stage d D id i t).1 (Dep.stage d D id i t).2.1∧Only [P,p,q,g] M M'∧M.size≤M'.size:=by
 obtain⟨Z,hZ⟩:∃Z,Z=Dep.stage d D id i t:=⟨_,rfl⟩
 rw[←hZ]
 unfold Dep.stage at hZ
 refine UX Tryz.func24 Tryz.results24 Tryz.ntmps24 fun hc hx k=>?_
 have hal:Qd qc 132=some (.cells false (J6 qc 132) noRec.cells):=al_Rec
 generalize J6 qc 132=s1 at hal
 have row13:∀(s:Nat)(x:Rec),Jv 13 0 (some (.cells false s x.cells))=some (.agg x.cells.toArray):=fun _ _=>rfl
 have rowS:∀(s:Nat)(x:Rec),Jv 5 8 (some (.cells false s x.cells))=some (Xh x.got):=fun _ _=>rfl
 have k2:∀(s:Nat)(x:Rec),cellIn 2 (some (.cells false s x.cells))=some (.int .i64 x.x.head.n):=fun _ _=>rfl
 have k7:∀(s:Nat)(x:Rec),cellIn 7 (some (.cells false s x.cells))=some (.int .i64 x.x.base):=fun _ _=>rfl
 have agg13:∀x:Rec,(Value.agg x.cells.toArray).cells.toList=x.cells:=fun _=>rfl
 have agg5:∀l,(Xh l).cells.toList=setCells l:=fun _=>rfl
 have put13:∀(M0:Mem)(b:Nat)(x y:Rec),Ji 13 M0 b 0 y.cells (some (.cells false s1 x.cells))=some (M0.set b (some (.cells false s1 y.cells))):=fun _ _ _ _=>rfl
 have putS:∀(M0:Mem)(b:Nat)(x:Rec)(l:List Bool),Ji 5 M0 b 8 (setCells l) (some (.cells false s1 x.cells))=some (M0.set b (some (.cells false s1 ({ x with got:=l }:Rec).cells))):=fun _ _ _ _=>rfl
 have hbt:JA (str t)=t.length:=rfl
 refine J0 (R0 ?_)
 refine J0 (R0 ?_)
 refine⟨by kernel_rfl,_,find_spec P p q g d D id M h,?_⟩
 rintro _ M1 ⟨rfl,mo⟩
 have ho1:Only [P,p,q,g] M M1:=fun b x _ hb=>mo.get b x hb
 have hs1:=mo.size
 have h1:=h.same mo.get
 obtain⟨s,vo,vk,hrow,ho,hk⟩:=h1.row
 have c0:cellIn 0 (some (.cells false s (JQ p D vo vk)))=some (dp p):=rfl
 have tail3:∀{M' M'':Mem},Only [p,q,g] M' M''→Only [P,p,q,g] M' M'':=fun h=>h.mono (by simp)
 refine S0 ?_
 refine J0 (J8 (J0 (R2 @hrow @c0 ?_)))
 refine K0 (dead_spec _ p q g d h1.dsk) ?_
 cases hdd:d.dead with
 |true=>
  rw[if_pos hdd]at hZ
  refine CT (J0 (R0 ?_))
  refine T0 ?_
  subst hZ
  exact⟨_,Thin.refl _,rfl,h1,ho1,hs1⟩
 |false=>
 rw[if_neg (by rw[hdd];decide)]at hZ
 refine CF (?_)
 cases hD:D.rec? id with
 |none=>
  rw[hD]at hZ
  have q1:decide ((-1:Int)<0)=true:=rfl
  simp only[Va]
  refine J0 (R1 @q1 ?_)
  refine CT (J0 (R0 ?_))
  refine T0 ?_
  subst hZ
  exact⟨_,Thin.refl _,rfl,h1,ho1,hs1⟩
 |some y=>
 obtain⟨j,r⟩:=y
 rw[hD]at hZ
 simp only at hZ
 obtain⟨hj,b,s',r1,hbK,gb⟩:=h1.recAt (ZI hD).1
 obtain⟨fv,fb0,fb1,fgl⟩:=h1.ok.fitO r (qF (ZI hD).1)
 have hn2:=VQ (r.x.head.check_zero.1 (by
  unfold Header.verify at fv
  split at fv
  ·exact absurd fv (by decide)
  ·rename_i h1
   exact(Vf _).resolve_right h1))
 have hdn:=h1.dsk.ok.n
 have q1:decide ((j:Int)<0)=false:=decide_eq_false (by omega)
 have z0:(0:Int)≤(j:Int):=by omega
 have z8:(j:Int)<((4:Nat):Int):=by omega
 have z8':(j:Int)<4:=by omega
 rw[hrow]at r1
 simp only[V9]
 refine J0 (R1 @q1 ?_)
 refine CF (J0 (J1 ?_))
 cases p1:decide (i<0)with
 |true=>
  have hi:=of_decide_eq_true p1
  rw[if_pos (.inl hi)]at hZ
  refine S1 @p1 ?_
  refine CT (J0 (R0 ?_))
  refine T0 ?_
  subst hZ
  exact⟨_,Thin.refl _,rfl,h1,ho1,hs1⟩
 |false=>
 have hi0:=of_decide_eq_false p1
 simp only[zZ,reduceIte,yQ,yW,yX,yZ,yJ,yK,yV,zDk,Jc,Jb,Ja,J9,XQ,p1,z0,z8,z8',and_self,qi,hrow,r1,gb,k2]
 refine CC (decide (i≥r.x.head.n)) (fun hq=>J0 (J1 ?_)) (fun hq=>J0 (J1 ?_))
 ·rw[if_pos (.inr (of_decide_eq_true hq))]at hZ
  refine S0 ?_
  refine T0 ?_
  subst hZ
  exact⟨_,Thin.refl _,rfl,h1,ho1,hs1⟩
 have hin:¬r.x.head.n≤i:=of_decide_eq_false hq
 rw[if_neg (by omega)]at hZ
 refine S1 @hbt ?_
 refine CC (((t.length:Nat):Int) !=224) (fun hq=>J0 (J1 ?_)) (fun hq=>J3 ?_)
 ·have hq':t.length≠224:=by simp at hq;omega
  rw[if_pos hq']at hZ
  refine S0 ?_
  refine T0 ?_
  subst hZ
  exact⟨_,Thin.refl _,rfl,h1,ho1,hs1⟩
 have hq':¬t.length≠224:=by simp at hq;omega
 rw[if_neg hq']at hZ
 have zw:IntKind.i64.wrap (r.x.base+i)=r.x.base+i:=Xl (by omega) (by omega)
 have gl:r.got.length≤256:=by omega
 have ehas:hasV r.got i=r.got.getD i.toNat false:=by unfold hasV;rw[decide_eq_true (by omega),Bool.true_and]
 have ewith:Uy r.got i=r.got.set i.toNat true:=by unfold Uy;rw[if_pos (by omega)]
 simp only[zZ,reduceIte,yQ,yW,yX,yZ,yJ,yK,yV]
 refine J0 (J1 ?_)
 simp only[zZ,reduceIte,yQ,yW,yX,yZ,yJ,yK,yV,zDk,Jc,Jb,Ja,J9,XQ,z0,z8,z8',and_self,qi,hrow,r1,gb,row13,hal,Mem.get_push_new,agg13,put13]
 obtain⟨b11,hb11⟩:∃b,b=M1.size:=⟨_,rfl⟩
 obtain⟨M2,hM2⟩:∃M2,M2=(M1.push (.cells false s1 noRec.cells)).set M1.size (some (.cells false s1 r.cells)):=⟨_,rfl⟩
 rw[←hM2,←hb11]
 have g11:M2.get b11=some (.cells false s1 r.cells):=by rw[hM2,hb11];exact Mem.get_set_same (Mem.get_push_new _ _) _
 have mo2:More M1 M2:=⟨fun b x hb=>by
  have:=Mem.get_lt hb
  rw[hM2,Mem.get_set_ne (by omega),Mem.get_push_old this];exact hb,by rw[hM2,Mem.size_set,Mem.size_push];omega⟩
 have hs2:=mo2.size
 have ho2:Only [P,p,q,g] M M2:=fun b x hb hx=>mo2.get b x (ho1 b x hb hx)
 have h2:=h1.same mo2.get
 have hrow2:=mo2.get _ _ hrow
 have n11:b11∉ [P,p,q,g]:=by
  have l1:=Mem.get_lt hrow
  obtain⟨_,e⟩:=h1.dsk.row
  have l2:=Mem.get_lt e
  have l3:=Mem.get_lt h1.dsk.kv
  have l4:=Mem.get_lt h1.dsk.old
  simp only[qI,qC,or_false]
  omega
 have n11':b11∉ [p,q,g]:=fun h=>n11 (by simp at h ⊢;exact .inr h)
 have has:=fun m=>has_at r.got gl i m
 rw[ehas]at has
 refine J0 (J0 (R2 @g11 @rowS ?_))
 refine K0 (has _) ?_
 refine CC (r.got.getD i.toNat false) (fun hq=>J0 (J1 ?_)) (fun hq=>J3 ?_)
 ·rw[if_pos hq]at hZ
  refine S0 ?_
  refine T0 ?_
  subst hZ
  exact⟨_,Thin.refl _,rfl,h2,ho2,by omega⟩
 rw[if_neg (by rw[hq];decide)]at hZ
 obtain⟨W,hW⟩:∃W,W=d.write (r.x.base+i) t:=⟨_,rfl⟩
 obtain⟨Y,hY⟩:∃Y,Y=W.1.sync:=⟨_,rfl⟩
 obtain⟨U,hU⟩:∃U,U=Y.1.write ((1+j:Nat):Int) (JW { r with got:=r.got.set i.toNat true }):=⟨_,rfl⟩
 rw[stage_rest hW hY hU]at hZ
 have hlen:W.1.old.length=d.old.length:=by rw[hW];exact QH _ _ _
 have hlen2:Y.1.old.length=W.1.old.length:=by rw[hY];exact sync_len _
 have ws:=Z1 M2 p q g d h2.dsk (r.x.base+i) t ht
 rw[←hW]at ws
 simp only[zZ,reduceIte,yQ,yW,yX,yZ,yJ,yK,yV]
 refine J0 (J0 (D5 10 @hrow2 @c0 @g11 @k7 @zw ?_))
 refine⟨by kernel_rfl,_,ws,?_⟩
 rintro _ M3 ⟨rfl,hd3,ho3,hs3⟩
 have ho3':Only [p,q,g] M2 M3:=ho3.mono (by simp)
 have h3:=h2.disk hd3 hlen ho3'
 have g113:=ho3' _ _ n11' g11
 have o3:=ho2.trans (tail3 ho3')
 refine S0 ?_
 refine J0 (R0 ?_)
 refine CC (W.2 !=0) (fun hq=>J0 (J1 ?_)) (fun hq=>J3 ?_)
 ·rw[if_pos (by simpa using hq)]at hZ
  refine S0 ?_
  refine T0 ?_
  subst hZ
  exact⟨_,Thin.refl _,rfl,h3,o3,by omega⟩
 rw[if_neg (by simpa using hq)]at hZ
 obtain⟨s3,vo3,vk3,hrow3,ho3r,hk3⟩:=h3.row
 have l43:vo3.length=4:=by rw[ho3r.len,h3.ok.opn]
 have l83:vk3.length=8:=by rw[hk3.len,h3.ok.kept]
 have ln3:=VX p D vo3 vk3 l43 l83
 have c15:cellIn 15 (some (.cells false s3 (JQ p D vo3 vk3)))=some (.int .i64 D.staged):=depC_staged p D vo3 vk3 l43 l83
 have ws1:IntKind.i64.wrap (D.staged+1)=D.staged+1:=Xl (by omega) (by omega)
 have hputS:Ji 1 M3 P 15 [.int .i64 (D.staged+1)] (some (.cells false s3 (JQ p D vo3 vk3)))=some (M3.set P (some (.cells false s3 ((JQ p D vo3 vk3).set 15 (.int .i64 (D.staged+1)))))):=by
  simp only[Ji]
  rw[if_pos ⟨rfl,by show 15+1≤(JQ p D vo3 vk3).length;omega,rfl⟩]
  rfl
 have h4:=h3.turnS ho3r hk3 hrow3 (D.staged+1)
 simp only[zZ,reduceIte,yQ,yW,yX,yZ,yJ,yK,yV]
 refine J0 (R4 @hrow3 @c15 @ws1 @hputS ?_)
 obtain⟨M4,hM4⟩:∃M4,M4=M3.set P (some (.cells false s3 ((JQ p D vo3 vk3).set 15 (.int .i64 (D.staged+1))))):=⟨_,rfl⟩
 have on4:Only [P,p,q,g] M3 M4:=by rw[hM4];exact Only.set (by simp) _
 have hs4:M4.size=M3.size:=by rw[hM4,Mem.size_set]
 rw[←hM4]at h4 ⊢
 have o4:=o3.trans on4
 have g114:=on4 _ _ n11 g113
 obtain⟨D1,hD1⟩:∃D1,D1=({ D with staged:=D.staged+1 }:Dep):=⟨_,rfl⟩
 rw[←hD1]at h4
 obtain⟨s4,vo4,vk4,hrow4,ho4r,hk4⟩:=h4.row
 have c04:cellIn 0 (some (.cells false s4 (JQ p D1 vo4 vk4)))=some (dp p):=rfl
 refine J0 (J0 (R2 @hrow4 @c04 ?_))
 refine⟨by kernel_rfl,_,sync_spec _ p q g W.1 h4.dsk,?_⟩
 rintro _ M5 ⟨rfl,hd5,ho5,hs5⟩
 rw[←hY]at hd5 ⊢
 have h5:=h4.disk hd5 hlen2 ho5
 have g115:=ho5 _ _ n11' g114
 have o5:=o4.trans (tail3 ho5)
 refine S0 ?_
 refine J0 (R0 ?_)
 refine CC (Y.2 !=0) (fun hq=>J0 (J1 ?_)) (fun hq=>J3 ?_)
 ·rw[if_pos (by simpa using hq),←hD1]at hZ
  refine S0 ?_
  refine T0 ?_
  subst hZ
  exact⟨_,Thin.refl _,rfl,h5,o5,by omega⟩
 rw[if_neg (by simpa using hq)]at hZ
 obtain⟨r',hr'⟩:∃r',r'=({ r with got:=r.got.set i.toNat true }:Rec):=⟨_,rfl⟩
 rw[←hr']at hU hZ
 have fitr:fitX D1.key Y.1.old.length r'.x:=by rw[hr',hD1,hlen2,hlen];exact⟨fv,fb0,fb1⟩
 have gotr:(r'.got.length:Int)=r'.x.head.n:=by rw[hr'];show((r.got.set i.toNat true).length:Int)=_;rw[qu];exact fgl
 have mayr:r'.may=true:=by
  unfold Rec.may
  rw[decide_eq_true gotr,Bool.and_true]
  rw[hr']
  show JB r.x=true
  have hchk:=(r.x.head.check_zero.2 ?_:r.x.head.check=0)
  ·unfold JB Header.may
   rw[decide_eq_true hchk,decide_eq_true (by omega:(0:Int)≤r.x.base),decide_eq_true (by omega:r.x.base≤1024-r.x.head.n)]
   rfl
  ·refine r.x.head.check_zero.1 ?_
   unfold Header.verify at fv
   split at fv
   ·exact absurd fv (by decide)
   ·rename_i h1
    exact(Vf _).resolve_right h1
 have wth:=fun m=>with_at r.got gl i m
 rw[ewith]at wth
 have hput5:Ji 5 M5 b11 8 (setCells (r.got.set i.toNat true)) (some (.cells false s1 r.cells))=some (M5.set b11 (some (.cells false s1 r'.cells))):=by rw[hr'];exact putS M5 b11 r _
 simp only[zZ,reduceIte,yQ,yW,yX,yZ,yJ,yK,yV]
 refine J0 (R2 @g115 @rowS ?_)
 refine K3 @g115 @agg5 @hput5 (wth _) ?_
 obtain⟨M6,hM6⟩:∃M6,M6=M5.set b11 (some (.cells false s1 r'.cells)):=⟨_,rfl⟩
 rw[←hM6]
 have np1:NoPt M1 P b11:=h1.noPt (by omega)
 have np2:NoPt M2 P b11:=np1.same (by rw[hrow2,hrow])
 have hrow3':=ho3' _ _ (by simp;exact h.ne) hrow2
 have np3:NoPt M3 P b11:=np2.same (by rw[hrow2,hrow3'])
 have np4:NoPt M4 P b11:=by
  intro n hn
  rw[hM4,Mem.get_set_same hrow3]at hn
  have hn:((JQ p D vo3 vk3).set 15 (.int .i64 (D.staged+1)))[n]?=some (.pointer (some ⟨b11,0,none⟩)):=hn
  by_cases e:15=n
  ·subst e
   rw[qv (by omega)]at hn
   cases hn
  ·rw[qw e]at hn
   exact np3 n (by rw[hrow3];exact hn)
 have hrow5':=ho5 _ _ (by simp;exact h.ne) hrow4
 have np5:NoPt M5 P b11:=np4.same (by rw[hrow4,hrow5'])
 have h6:=h5.off n11 np5 (some (.cells false s1 r'.cells))
 rw[←hM6]at h6
 have g116:M6.get b11=some (.cells false s1 r'.cells):=by rw[hM6];exact Mem.get_set_same g115 _
 have hb11:M.size≤b11:=by omega
 have o6:Only [P,p,q,g] M M6:=fun b x hb hx=>by
  have:=Mem.get_lt hx
  rw[hM6,Mem.get_set_ne (by omega)]
  exact o5 b x hb hx
 have hs6:M6.size=M5.size:=by rw[hM6,Mem.size_set]
 have ns:=note_spec P p q g Y.1 D1 M6 h6 j hj r' mayr
 rw[←hU]at ns
 refine J0 (J0 (R2 @g116 @row13 ?_))
 refine⟨by kernel_rfl,_,ns,?_⟩
 rintro _ M7 ⟨rfl,h7,ho7,hs7⟩
 have g117:=ho7 _ _ n11' g116
 have o7:=o6.trans (tail3 ho7)
 have hlen3:U.1.old.length=Y.1.old.length:=by rw[hU];exact QH _ _ _
 refine S0 ?_
 refine J0 (R0 ?_)
 refine CC (U.2 !=0) (fun hq=>J0 (J1 ?_)) (fun hq=>J3 ?_)
 ·rw[if_pos (by simpa using hq),←hD1]at hZ
  refine S0 ?_
  refine T0 ?_
  subst hZ
  exact⟨_,Thin.refl _,rfl,h7,o7,by omega⟩
 rw[if_neg (by simpa using hq)]at hZ
 obtain⟨s7,vo7,vk7,hrow7,ho7r,hk7⟩:=h7.row
 have l47:vo7.length=4:=by rw[ho7r.len,h7.ok.opn]
 have l87:vk7.length=8:=by rw[hk7.len,h7.ok.kept]
 have ln7:=VX p D1 vo7 vk7 l47 l87
 have hput:Ji 1 M7 P (3+j) [.pointer (some ⟨b11,0,none⟩)] (some (.cells false s7 (JQ p D1 vo7 vk7)))=some (M7.set P (some (.cells false s7 ((JQ p D1 vo7 vk7).set (3+j) (.pointer (some ⟨b11,0,none⟩)))))):=by
  simp only[Ji]
  rw[if_pos ⟨rfl,by show 3+j+1≤(JQ p D1 vo7 vk7).length;omega,rfl⟩]
  rfl
 have hfin:=h7.turnO ho7r hk7 hrow7 j hj (some r') (fun y hy=>by cases hy;exact⟨by rw[hlen3];exact fitr,gotr⟩) (.pointer (some ⟨b11,0,none⟩)) ⟨b11,s1,n11,rfl,g117⟩
 have hon:Only [P,p,q,g] M7 (M7.set P (some (.cells false s7 ((JQ p D1 vo7 vk7).set (3+j) (.pointer (some ⟨b11,0,none⟩)))))):=Only.set (by simp) _
 simp only[zZ,reduceIte,yQ,yW,yX,yZ,yJ,yK,yV]
 refine J0 (R7 @hrow7 @z0 @z8 @z8' @and_self @qi @hput ?_)
 refine J0 (R0 ?_)
 refine T0 ?_
 subst hZ
 subst hD1
 exact⟨_,Thin.refl _,rfl,hfin,o7.trans hon,by rw[Mem.size_set];omega⟩
theorem Kj{α:Type}:∀(l:List (Option α))(i:Nat),(QZ l i=none∧∀(j:Nat),l[j]?≠some none)∨∃(j:Nat),QZ l i=some (i+j)∧l[j]?=some none∧∀(k:Nat),k<j→l[k]?≠some none
 | [],i=>.inl ⟨rfl,fun j h=>by simp at h⟩
 |none::r,i=>.inr ⟨0,rfl,rfl,fun k hk=>by omega⟩
 |some a::r,i=>by
  unfold QZ
  rcases Kj r (i+1)with⟨h1,h2⟩|⟨j,h1,h2,h4⟩
  ·refine .inl ⟨h1,fun j hj=>?_⟩
   cases j with
   |zero=>simp at hj
   |succ j=>exact h2 j (by simpa using hj)
  ·refine .inr ⟨j+1,by rw[h1];congr 1;omega,by simpa using h2,fun k hk hc=>?_⟩
   cases k with
   |zero=>simp at hc
   |succ k=>exact h4 k (by omega) (by simpa using hc)
theorem freeAt_is{α:Type}{l:List (Option α)}{j:Nat}(h1:l[j]?=some none)(h3:∀(k:Nat),k<j→l[k]?≠some none):QZ l 0=some j:=by
 rcases Kj l 0 with⟨_,h⟩|⟨j',e,h4,h6⟩
 ·exact absurd h1 (h j)
 ·rcases Nat.lt_trichotomy j j' with hl|hl|hl
  ·exact absurd h1 (h6 j hl)
  ·subst hl;rw[e,qy]
  ·exact absurd h4 (h3 j' hl)
theorem freeAt_not{α:Type}{l:List (Option α)}(h3:∀(k:Nat),l[k]?≠some none):QZ l 0=none:=by
 rcases Kj l 0 with⟨h,_⟩|⟨j',e,h4,_⟩
 ·exact h
 ·exact absurd h4 (h3 j')
theorem free_rec{l:List (Option Rec)}{j:Nat}(h1:l[j]?=some none)(h3:∀(k:Nat) o,k<j→l[k]?=some o→o.isNone=false):freeI (QZ l 0)=(j:Int):=by
 rw[freeAt_is h1 fun k hk hb=>by have:=h3 k none hk hb;cases this];rfl
theorem nofree_rec{l:List (Option Rec)}(h3:∀(k:Nat) o,l[k]?=some o→o.isNone=false):freeI (QZ l 0)= -1:=by
 rw[freeAt_not fun k hb=>by have:=h3 k none hb;cases this];rfl
theorem freerec_spec(P off s0 c:Nat)(K:List Nat)(M:Mem)(C:List Value)(vs:List Value)(l:List (Option Rec))(hC:M.get P=some (.cells false s0 C))(hvs:∀(i:Nat) v,vs[i]?=some v→C[off+i]?=some v)(h:PtrsAt Rec.cells K M l vs)(hl:l.length≤1000):
 Abs.Spec qc 57 [.slice (some ⟨P,off,none⟩) l.length c,.pointer none] M fun u M'=>u=.int .i64 (freeI (QZ l 0))∧M'=M:=by
 refine UX Tryz.func57 Tryz.results57 Tryz.ntmps57 fun hc hx k=>?_
 have f0:aBin qc .eql 117 false (.pointer none) (.pointer none)=some (.bool true):=by kernel_rfl
 have f1:∀b,aBin qc .eql 117 false (.pointer none) (.pointer (some ⟨b,0,none⟩))=some (.bool false):=fun b=>by kernel_rfl
 refine J0 (R0 ?_)
 refine J0 (J0 (R0 ?_))
 refine J8 (Jt (fun j f M'=>∃i:Nat,j=l.length-i∧f=[(0,.slice (some ⟨P,off,none⟩) l.length c),(1,.pointer none),(7,.int .i64 (l.length:Nat)),(8,.int .i64 (i:Nat))]∧i≤l.length∧
  (∀(k:Nat) o,k<i→l[k]?=some o→o.isNone=false)∧M'=M) l.length ?_ ?_)
 ·refine JK [0,1,7,8] ?_
  exact⟨M,Thin.refl _,0,rfl,rfl,by omega,fun k o hk=>by omega,rfl⟩
 ·rintro j f M' ⟨i,rfl,rfl,hi,hno,e9⟩
  replace e9:=e9.symm;subst e9
  refine J0 (R0 ?_)
  refine J0 (CC (decide ((i:Int)<(l.length:Int))) (fun hq=>J3 ?_) (fun hq=>Jp ?_))
  ·have hiL:=of_decide_eq_true hq
   obtain⟨o,ho⟩:∃o,l[i]?=some o:=⟨_,qj (by omega)⟩
   obtain⟨v,hv,hp⟩:=h.at_ i o ho
   have z0:(0:Int)≤(i:Int):=by omega
   have r1:cellIn (off+i) (some (.cells false s0 C))=some v:=hvs i v hv
   have w9:IntKind.i64.wrap ((i:Int)+1)=((i+1:Nat):Int):=by rw[Xl (by omega) (by omega)];omega
   simp only[zZ,reduceIte,yQ,yW,yX,yZ,yJ,yK,yV]
   refine J0 (J8 (J0 (R0 ?_)))
   refine J0 (J1 ?_)
   cases o with
   |none=>
    obtain rfl:v=.pointer none:=hp
    refine S8 @z0 @hiL @and_self @hC @qi @r1 @f0 @f1 ?_
    refine CT (J0 (R0 ?_))
    refine T0 ?_
    exact⟨_,Thin.refl _,by rw[free_rec ho hno],rfl⟩
   |some a=>
    obtain⟨b',s',_,rfl,_⟩:=hp
    refine S8 @z0 @hiL @and_self @hC @qi @r1 @f0 @f1 ?_
    refine CF (J3 ?_)
    simp only[zZ,reduceIte,yQ,yW,yX,yZ,yJ,yK,yV]
    refine R1 @w9 ?_
    refine JK [0,1,7,8] ?_
    refine⟨_,Thin.refl _,l.length-(i+1),⟨i+1,rfl,rfl,by omega,fun k o' hk ho'=>?_,rfl⟩,by omega⟩
    by_cases e:k=i
    ·subst e;rw[ho]at ho';cases ho';rfl
    ·exact hno k o' (by omega) ho'
  ·have hiL:=of_decide_eq_false hq
   simp only[zZ,reduceIte,yQ,yW,yX,yZ,yJ,yK,yV]
   refine J0 (R0 ?_)
   refine T0 ?_
   refine⟨_,Thin.refl _,?_,rfl⟩
   rw[nofree_rec fun k o ho=>hno k o (by have:=(qe.1 ho).1;omega) ho]
theorem free_ext{l:List (Option Ext)}{j:Nat}(h1:l[j]?=some none)(h3:∀(k:Nat) o,k<j→l[k]?=some o→o.isNone=false):freeI (QZ l 0)=(j:Int):=by
 rw[freeAt_is h1 fun k hk hb=>by have:=h3 k none hk hb;cases this];rfl
theorem nofree_ext{l:List (Option Ext)}(h3:∀(k:Nat) o,l[k]?=some o→o.isNone=false):freeI (QZ l 0)= -1:=by
 rw[freeAt_not fun k hb=>by have:=h3 k none hb;cases this];rfl
theorem freeext_spec(P off s0 c:Nat)(K:List Nat)(M:Mem)(C:List Value)(vs:List Value)(l:List (Option Ext))(hC:M.get P=some (.cells false s0 C))(hvs:∀(i:Nat) v,vs[i]?=some v→C[off+i]?=some v)(h:PtrsAt Ext.cells K M l vs)(hl:l.length≤1000):
 Abs.Spec qc 79 [.slice (some ⟨P,off,none⟩) l.length c,.pointer none] M fun u M'=>u=.int .i64 (freeI (QZ l 0))∧M'=M:=by
 refine UX Tryz.func79 Tryz.results79 Tryz.ntmps79 fun hc hx k=>?_
 have f0:aBin qc .eql 119 false (.pointer none) (.pointer none)=some (.bool true):=by kernel_rfl
 have f1:∀b,aBin qc .eql 119 false (.pointer none) (.pointer (some ⟨b,0,none⟩))=some (.bool false):=fun b=>by kernel_rfl
 refine J0 (R0 ?_)
 refine J0 (J0 (R0 ?_))
 refine J8 (Jt (fun j f M'=>∃i:Nat,j=l.length-i∧f=[(0,.slice (some ⟨P,off,none⟩) l.length c),(1,.pointer none),(7,.int .i64 (l.length:Nat)),(8,.int .i64 (i:Nat))]∧i≤l.length∧
  (∀(k:Nat) o,k<i→l[k]?=some o→o.isNone=false)∧M'=M) l.length ?_ ?_)
 ·refine JK [0,1,7,8] ?_
  exact⟨M,Thin.refl _,0,rfl,rfl,by omega,fun k o hk=>by omega,rfl⟩
 ·rintro j f M' ⟨i,rfl,rfl,hi,hno,e9⟩
  replace e9:=e9.symm;subst e9
  refine J0 (R0 ?_)
  refine J0 (CC (decide ((i:Int)<(l.length:Int))) (fun hq=>J3 ?_) (fun hq=>Jp ?_))
  ·have hiL:=of_decide_eq_true hq
   obtain⟨o,ho⟩:∃o,l[i]?=some o:=⟨_,qj (by omega)⟩
   obtain⟨v,hv,hp⟩:=h.at_ i o ho
   have z0:(0:Int)≤(i:Int):=by omega
   have r1:cellIn (off+i) (some (.cells false s0 C))=some v:=hvs i v hv
   have w9:IntKind.i64.wrap ((i:Int)+1)=((i+1:Nat):Int):=by rw[Xl (by omega) (by omega)];omega
   simp only[zZ,reduceIte,yQ,yW,yX,yZ,yJ,yK,yV]
   refine J0 (J8 (J0 (R0 ?_)))
   refine J0 (J1 ?_)
   cases o with
   |none=>
    obtain rfl:v=.pointer none:=hp
    refine S8 @z0 @hiL @and_self @hC @qi @r1 @f0 @f1 ?_
    refine CT (J0 (R0 ?_))
    refine T0 ?_
    exact⟨_,Thin.refl _,by rw[free_ext ho hno],rfl⟩
   |some a=>
    obtain⟨b',s',_,rfl,_⟩:=hp
    refine S8 @z0 @hiL @and_self @hC @qi @r1 @f0 @f1 ?_
    refine CF (J3 ?_)
    simp only[zZ,reduceIte,yQ,yW,yX,yZ,yJ,yK,yV]
    refine R1 @w9 ?_
    refine JK [0,1,7,8] ?_
    refine⟨_,Thin.refl _,l.length-(i+1),⟨i+1,rfl,rfl,by omega,fun k o' hk ho'=>?_,rfl⟩,by omega⟩
    by_cases e:k=i
    ·subst e;rw[ho]at ho';cases ho';rfl
    ·exact hno k o' (by omega) ho'
  ·have hiL:=of_decide_eq_false hq
   simp only[zZ,reduceIte,yQ,yW,yX,yZ,yJ,yK,yV]
   refine J0 (R0 ?_)
   refine T0 ?_
   refine⟨_,Thin.refl _,?_,rfl⟩
   rw[nofree_ext fun k o ho=>hno k o (by have:=(qe.1 ho).1;omega) ho]
section
variable {P : Program} {t tx e : TypeId} {i : TypeInfo} {z : Value} {N : Nat}
theorem gapp(hu:P.underlying t=some (.slice e))(hi:P.info? e=some i)(hz:i.zero=some z)(hs:i.size=N)(hzc:z.cells.toList.length=N)(m:Mem){x:Value}{k n g:Nat}{cs news:List Value}
 (hsrc:aSrc P m tx N x=some (k,news)) (hk:k≠0) (hg:m.get g=some (.cells false N cs)) (hn:cs.length=n*N) (hb:(n+k)*i.bytes≤140737488355328) (hb2:n+k≤140737488355328):
 JN P m t tx (.slice (some ⟨g,0,none⟩) n n) x=some (.slice (some ⟨m.size,0,none⟩) (n+k) (n+k),(m.set g none).push (.cells false N (cs++news))):=by
 unfold JN
 simp only[hu,hi,hz,hs,hzc,if_true,hsrc,if_neg hk,hg]
 rw[if_neg (by omega),if_pos ⟨by omega,trivial,hb,hb2⟩,List.drop_zero,←hn,List.take_length]
theorem gapp_nil(hu:P.underlying t=some (.slice e))(hi:P.info? e=some i)(hz:i.zero=some z)(hs:i.size=N)(hzc:z.cells.toList.length=N)(m:Mem){x:Value}{k:Nat}{news:List Value}
 (hsrc:aSrc P m tx N x=some (k,news)) (hk:k≠0) (hb:k*i.bytes≤140737488355328) (hb2:k≤140737488355328):
 JN P m t tx (.slice none 0 0) x=some (.slice (some ⟨m.size,0,none⟩) k k,m.push (.cells false N news)):=by
 unfold JN
 simp only[hu,hi,hz,hs,hzc,if_true,hsrc,if_neg hk]
 rw[if_pos ⟨hb,hb2⟩]
end
def QA:Value→Option Nat
 |.slice (some a) _ _=>some a.block
 |_=>none
section
variable {α : Type} (enc : α → List Value) (N : Nat)
def OwnL(k:Nat)(M:Mem)(V:Value)(L:List α):Prop:=(L=[]∧V=.slice none 0 0)∨(L≠ []∧∃g,k≤g∧V=.slice (some ⟨g,0,none⟩) L.length L.length∧M.get g=some (.cells false N (L.flatMap enc)))
variable {enc N}
theorem OwnL.nil(k:Nat)(M:Mem):OwnL enc N k M (.slice none 0 0) []:=.inl ⟨rfl,rfl⟩
theorem OwnL.len{k:Nat}{M:Mem}{V:Value}{L:List α}(h:OwnL enc N k M V L):∃a c,V=.slice a L.length c:=by
 rcases h with⟨rfl,rfl⟩|⟨_,g,_,rfl,_⟩
 ·exact⟨none,0,rfl⟩
 ·exact⟨_,_,rfl⟩
theorem OwnL.same{k:Nat}{M M':Mem}{V:Value}{L:List α}(h:OwnL enc N k M V L)(hs:∀b x,QA V=some b→M.get b=some x→M'.get b=some x):OwnL enc N k M' V L:=by
 rcases h with h|⟨h0,g,hk,rfl,hg⟩
 ·exact .inl h
 ·exact .inr ⟨h0,g,hk,rfl,hs g _ rfl hg⟩
theorem OwnL.live{k:Nat}{M:Mem}{V:Value}{L:List α}(h:OwnL enc N k M V L){b:Nat}(hb:QA V=some b):k≤b∧b<M.size:=by
 rcases h with⟨_,rfl⟩|⟨h0,g,hk,rfl,hg⟩
 ·cases hb
 ·cases hb;exact⟨hk,Mem.get_lt hg⟩
theorem OwnL.at{k:Nat}{M:Mem}{a:Option Addr}{n c:Nat}{L:List α}(h:OwnL enc N k M (.slice a n c) L){i:Nat}{x:α}(hx:L[i]?=some x):∃g,a=some ⟨g,0,none⟩∧k≤g∧M.get g=some (.cells false N (L.flatMap enc)):=by
 rcases h with⟨h1,_⟩|⟨h1,g,h2,h3,h4⟩
 ·rw[h1]at hx;cases hx
 ·cases h3;exact⟨g,rfl,h2,h4⟩
theorem OwnL.le{k k':Nat}{M:Mem}{V:Value}{L:List α}(h:OwnL enc N k M V L)(hk:k'≤k):OwnL enc N k' M V L:=by
 rcases h with h|⟨h0,g,h1,h2⟩
 ·exact .inl h
 ·exact .inr ⟨h0,g,by omega,h2⟩
theorem flat_length(henc:∀a,(enc a).length=N)(L:List α):(L.flatMap enc).length=L.length*N:=by
 induction L with
 |nil=>simp
 |cons a L ih=>rw[List.flatMap_cons,qp,henc,ih,List.length_cons,Nat.succ_mul];omega
variable {P : Program} {t tx e d : TypeId} {i : TypeInfo} {z : Value}
theorem oapp(hu:P.underlying t=some (.slice e))(hi:P.info? e=some i)(hz:i.zero=some z)(hs:i.size=N)(hzc:z.cells.toList.length=N)(hx:P.underlying tx=some (.slice d))(henc:∀a,(enc a).length=N)(hby:i.bytes≤1000)
 {k:Nat} {M:Mem} {V:Value} {L:List α} (h:OwnL enc N k M V L) (hk:k≤M.size) (hl:L.length≤1000000) (x:α) (sn:Nat):
 ∃M' V',JN P (M.push (.cells false sn (enc x))) t tx V (.slice (some ⟨M.size,0,none⟩) 1 1)=some (V',M')∧QA V'=some (M.size+1)∧OwnL enc N k M' V' (L++[x])∧
  M'.size=M.size+2∧(∀b y,QA V≠some b→M.get b=some y→M'.get b=some y):=by
 have hsrc:=src_block (P:=P) (m:=M.push (.cells false sn (enc x))) (c:=1) (k:=1) (N:=N) (news:=enc x) (ro:=false) (s:=sn) hx (Mem.get_push_new M _) (by rw[henc];omega)
 rcases h with⟨rfl,rfl⟩|⟨h0,g,hgk,rfl,hg⟩
 ·have ha:=gapp_nil (P:=P) (N:=N) (k:=1) (news:=enc x) hu hi hz hs hzc (M.push (.cells false sn (enc x))) hsrc (by decide) (by omega) (by decide)
  rw[Mem.size_push]at ha
  refine⟨_,_,ha,rfl,.inr ⟨by simp,M.size+1,by omega,rfl,?_⟩,by simp only[Mem.size_push],fun b y _ hy=>?_⟩
  ·have:=Mem.get_push_new (M.push (.cells false sn (enc x))) (.cells false N (enc x))
   rw[Mem.size_push]at this
   rw[this]
   simp
  ·have:=Mem.get_lt hy
   rw[Mem.get_push_old (by rw[Mem.size_push];omega),Mem.get_push_old this];exact hy
 ·have hgl:=Mem.get_lt hg
  have ha:=gapp (P:=P) (N:=N) (k:=1) (n:=L.length) (cs:=L.flatMap enc) (news:=enc x) hu hi hz hs hzc (M.push (.cells false sn (enc x))) hsrc (by decide)
   (by rw[Mem.get_push_old hgl];exact hg) (flat_length henc L) (by have:=Nat.mul_le_mul (show L.length+1≤1000001 by omega) hby;omega) (by omega)
  rw[Mem.size_push]at ha
  refine⟨_,_,ha,rfl,.inr ⟨by simp,M.size+1,by omega,by simp,?_⟩,by simp only[Mem.size_push,Mem.size_set],fun b y hb hy=>?_⟩
  ·have:=Mem.get_push_new ((M.push (.cells false sn (enc x))).set g none) (.cells false N (L.flatMap enc++enc x))
   rw[Mem.size_set,Mem.size_push]at this
   rw[this,List.flatMap_append];simp
  ·have:=Mem.get_lt hy
   rw[Mem.get_push_old (by rw[Mem.size_set,Mem.size_push];omega),Mem.get_set_ne (by intro e;apply hb;rw[e];rfl),Mem.get_push_old this];exact hy
end
theorem Xm{α:Type}(f:α→Value)(L:List α):(L.flatMap fun a=>[f a])=L.map f:=by
 induction L with
 |nil=>rfl
 |cons a L ih=>rw[List.flatMap_cons,ih];rfl
theorem VY{α:Type}{f:α→Value}{L:List α}{i:Nat}{x:α}(hx:L[i]?=some x)(ro:Bool)(s:Nat):cellIn i (some (.cells ro s (L.flatMap fun a=>[f a])))=some (f x):=by
 rw[Xm]
 simp only[cellIn,List.getElem?_map,hx,Option.map_some]
theorem Ext_zero:Tryz.t102.zero=some (.agg noExt.cells.toArray):=by kernel_rfl
theorem Ext_bytes:Tryz.t102.bytes≤1000:=by decide
theorem new_ext1(x:Ext):Jx qc 128 1 [(0,.agg x.cells.toArray)]=some (.cells false 8 x.cells):=by kernel_rfl
abbrev Vw(k:Nat)(M:Mem)(V:Value)(L:List Ext):Prop:=OwnL Ext.cells 8 k M V L
theorem list8{α:Type}{l:List α}(h:l.length=8):∃a b c d e f g i,l=[a,b,c,d,e,f,g,i]:=by
 match l,h with
 | [a,b,c,d,e,f,g,i],_=>exact⟨a,b,c,d,e,f,g,i,rfl⟩
theorem list4{α:Type}{l:List α}(h:l.length=4):∃a b c d,l=[a,b,c,d]:=by
 match l,h with
 | [a,b,c,d],_=>exact⟨a,b,c,d,rfl⟩
theorem ix_A8{vk:List Value}(h:vk.length=8){i:Nat}{v:Value}(hv:vk[i]?=some v):Ks qc 120 (.agg vk.toArray) (.int .i64 (i:Nat))=some v:=by
 have hi:i<8:=by have:=(qe.1 hv).1;omega
 obtain⟨a,b,c,d,e,f,g,j,rfl⟩:=list8 h
 rcases(by omega:i=0∨i=1∨i=2∨i=3∨i=4∨i=5∨i=6∨i=7)with rfl|rfl|rfl|rfl|rfl|rfl|rfl|rfl<;>(simp at hv;subst hv;show _=some _;kernel_rfl)
theorem ix_A4{vk:List Value}(h:vk.length=4){i:Nat}{v:Value}(hv:vk[i]?=some v):Ks qc 118 (.agg vk.toArray) (.int .i64 (i:Nat))=some v:=by
 have hi:i<4:=by have:=(qe.1 hv).1;omega
 obtain⟨a,b,c,d,rfl⟩:=list4 h
 rcases(by omega:i=0∨i=1∨i=2∨i=3)with rfl|rfl|rfl|rfl<;>(simp at hv;subst hv;show _=some _;kernel_rfl)
theorem row_kept(s p:Nat)(D:Dep){vo vk:List Value}(h4:vo.length=4)(h8:vk.length=8):Jv 8 7 (some (.cells false s (JQ p D vo vk)))=some (.agg vk.toArray):=by
 obtain⟨a,b,c,d,e,f,g,j,rfl⟩:=list8 h8
 obtain⟨a',b',c',d',rfl⟩:=list4 h4
 rfl
theorem row_opn(s p:Nat)(D:Dep){vo vk:List Value}(h4:vo.length=4)(h8:vk.length=8):Jv 4 3 (some (.cells false s (JQ p D vo vk)))=some (.agg vo.toArray):=by
 obtain⟨a,b,c,d,e,f,g,j,rfl⟩:=list8 h8
 obtain⟨a',b',c',d',rfl⟩:=list4 h4
 rfl
theorem filtm_step{α:Type}{l:List (Option α)}{i:Nat}{o:Option α}(h:l[i]?=some o):(l.take (i+1)).filterMap id=(l.take i).filterMap id++o.toList:=by
 rw[List.take_add_one,h,Option.toList_some,List.filterMap_append]
 cases o<;>rfl
theorem filtm_len{α:Type}(l:List (Option α))(i:Nat):((l.take i).filterMap id).length≤l.length:=by
 have:=qz id (l.take i)
 rw[qD]at this
 omega
theorem verify_check{key:List UInt8}{h:Header}(hv:h.verify key=0):h.check=0:=by
 unfold Header.verify at hv
 split at hv
 ·exact absurd hv (by decide)
 ·rename_i h1
  exact(Vf h).resolve_right h1
theorem fit_may{key:List UInt8}{n:Nat}{x:Ext}(h:fitX key n x)(hn:n≤1024):JB x=true:=by
 obtain⟨h1,h2,h3⟩:=h
 unfold JB Header.may
 rw[decide_eq_true (verify_check h1),decide_eq_true (by omega:(0:Int)≤x.base),decide_eq_true (by omega:x.base≤1024-x.head.n)]
 rfl
theorem Dep.Ok.fit{D:Dep}{n:Nat}(h:D.Ok n):∀x∈D.places,fitX D.key n x:=by
 intro x hx
 unfold Dep.places Qq at hx
 rw[List.mem_append]at hx
 rcases hx with hx|hx
 ·rw[List.mem_filterMap]at hx
  obtain⟨o,ho,e⟩:=hx
  have e:o=some x:=e
  subst e
  exact h.fitK x ho
 ·rw[List.mem_map]at hx
  obtain⟨r,hr,rfl⟩:=hx
  rw[List.mem_filterMap]at hr
  obtain⟨o,ho,e⟩:=hr
  have e:o=some r:=e
  subst e
  obtain⟨a,b,c,_⟩:=h.fitO r ho
  exact⟨a,b,c⟩
theorem ext_row{L:List Ext}{i:Nat}{x:Ext}(hx:L[i]?=some x)(s:Nat):Jv 8 (i*8) (some (.cells false s (L.flatMap Ext.cells)))=some (.agg x.cells.toArray):=
 rowIn_at (n:=8) (fun a _=>ext_len a) hx false s
theorem other_spec(x y:Ext)(hx:JB x=true)(hy:JB y=true)(b s:Nat)(M:Mem)(hb:M.get b=some (.cells false s x.cells)):
 Abs.Spec qc 152 [.agg y.cells.toArray,.pointer (some ⟨b,0,none⟩)] M fun u M'=>u=.bool (VP x y)∧More M M':=by
 refine Abs.Spec.walkM Tryz.func152 (by rfl) _ Tryz.results152 _ Tryz.ntmps152 (by simp) ?_
 intro hc hx0 k
 have bx:QS qc 102 (.agg y.cells.toArray)=some (.cells false (J6 qc 102) y.cells):=Kn _ rfl
 generalize J6 qc 102=s1 at bx
 have row:∀(s:Nat)(x:Ext),Jv 8 0 (some (.cells false s x.cells))=some (.agg x.cells.toArray):=fun _ _=>rfl
 have k0:∀(s:Nat)(x:Ext),cellIn 0 (some (.cells false s x.cells))=some (.int .i64 x.head.id):=fun _ _=>rfl
 obtain⟨M1,hM1⟩:∃M1,M1=M.push (.cells false s1 y.cells):=⟨_,rfl⟩
 have mo:More M M1:=by rw[hM1];exact More.push _ _
 have gy:M1.get M.size=some (.cells false s1 y.cells):=by rw[hM1,Mem.get_push_new]
 have gx:=mo.get _ _ hb
 refine J0 (R1 @bx ?_)
 rw[←hM1]
 refine J0 (J1 ?_)
 cases e:(y.head.id==x.head.id)with
 |true=>
  refine S4 @gx @gy @k0 @e ?_
  refine T0 ?_
  have e2:y.head.id=x.head.id:=by simpa using e
  exact⟨_,Thin.refl _,by unfold VP;rw[decide_eq_true e2];rfl,mo⟩
 |false=>
  refine S5 @gx @gy @k0 @e @row ?_
  refine K0 (cmeet_at x y hx hy _) ?_
  refine T0 ?_
  have e2:¬y.head.id=x.head.id:=by simpa using e
  exact⟨_,Thin.refl _,by unfold VP;rw[decide_eq_false e2];rfl,mo⟩
theorem idxother_spec(x:Ext)(hx:JB x=true)(b s K:Nat)(M:Mem)(V:Value)(L:List Ext)(h:Vw K M V L)(hL:∀y∈L,JB y=true)(hl:L.length≤1000)(hb:M.get b=some (.cells false s x.cells)):
 Abs.Spec qc 237 [V,.func (.func 152) #[] #[.pointer (some ⟨b,0,none⟩)]] M fun u M'=>∃z,u=.int .i64 z∧decide (z≥0)=L.any (VP x)∧More M M':=by
 obtain⟨a0,c0,hV⟩:=h.len
 subst hV
 refine Abs.Spec.walkM Tryz.func237 (by rfl) _ Tryz.results237 _ Tryz.ntmps237 (by simp) ?_
 intro hc hx0 k
 refine J0 (R0 ?_)
 refine J0 (J0 (R0 ?_))
 refine J8 (Jt (fun j f M'=>∃i:Nat,j=L.length-i∧f=[(0,.slice a0 L.length c0),(1,.func (.func 152) #[] #[.pointer (some ⟨b,0,none⟩)]),(7,.int .i64 (L.length:Nat)),(8,.int .i64 (i:Nat))]∧i≤L.length∧
  ((L.take i).any (VP x)=false)∧More M M') L.length ?_ ?_)
 ·refine JK [0,1,7,8] ?_
  exact⟨M,Thin.refl _,0,rfl,rfl,by omega,rfl,More.refl _⟩
 ·rintro j f M' ⟨i,rfl,rfl,hi,hno,hgr⟩
  refine J0 (R0 ?_)
  refine J0 (CC (decide ((i:Int)<(L.length:Int))) (fun hq=>J3 ?_) (fun hq=>Jp ?_))
  ·have hiL:=of_decide_eq_true hq
   obtain⟨y,hY⟩:∃y,L[i]?=some y:=⟨_,qj (by omega)⟩
   obtain⟨g,rfl,_,hg⟩:=h.at hY
   have hyL:y∈L:=qF hY
   have z0:(0:Int)≤(i:Int):=by omega
   have r1:=ext_row hY 8
   have gg:=hgr.get _ _ hg
   have w9:IntKind.i64.wrap ((i:Int)+1)=((i+1:Nat):Int):=by rw[Xl (by omega) (by omega)];omega
   have hta:(L.take (i+1)).any (VP x)=VP x y:=by rw[List.take_add_one,hY,Option.toList_some,List.any_append,hno];simp
   simp only[zZ,reduceIte,yQ,yW,yX,yZ,yJ,yK,yV]
   refine J0 (J8 (J0 (R0 ?_)))
   refine J0 (R5 @z0 @hiL @and_self @gg @r1 ?_)
   refine⟨by kernel_rfl,_,other_spec x y hx (hL y hyL) b s M' (hgr.get _ _ hb),?_⟩
   rintro _ M2 ⟨rfl,hg2⟩
   have hgr2:=hgr.trans hg2
   refine S0 ?_
   refine CC (VP x y) (fun he=>J0 (J1 ?_)) (fun he=>J3 ?_)
   ·refine S0 ?_
    refine T0 ?_
    refine⟨M2,Thin.refl _,(i:Int),rfl,?_,hgr2⟩
    rw[decide_eq_true (by omega)]
    exact(List.any_eq_true.2 ⟨y,hyL,he⟩).symm
   ·simp only[zZ,reduceIte,yQ,yW,yX,yZ,yJ,yK,yV]
    refine R1 @w9 ?_
    refine JK [0,1,7,8] ?_
    exact⟨M2,Thin.refl _,L.length-(i+1),⟨i+1,rfl,rfl,by omega,by rw[hta];exact he,hgr2⟩,by omega⟩
  ·have hiL:=of_decide_eq_false hq
   simp only[zZ,reduceIte,yQ,yW,yX,yZ,yJ,yK,yV]
   refine J0 (R0 ?_)
   refine T0 ?_
   rw[qB (by omega)]at hno
   exact⟨M',Thin.refl _, -1,rfl,by rw[hno];rfl,hgr⟩
theorem anyother_spec(x:Ext)(hx:JB x=true)(b s K:Nat)(M:Mem)(V:Value)(L:List Ext)(h:Vw K M V L)(hL:∀y∈L,JB y=true)(hl:L.length≤1000)(hb:M.get b=some (.cells false s x.cells)):
 Abs.Spec qc 153 [V,.func (.func 152) #[] #[.pointer (some ⟨b,0,none⟩)]] M fun u M'=>u=.bool (L.any (VP x))∧More M M':=by
 refine Abs.Spec.walkM Tryz.func153 (by rfl) _ Tryz.results153 _ Tryz.ntmps153 (by simp) ?_
 intro hc hx0 k
 refine J0 (R0 ?_)
 refine J0 (R0 ?_)
 refine⟨by kernel_rfl,_,idxother_spec x hx b s K M V L h hL hl hb,?_⟩
 rintro _ M2 ⟨z,rfl,hz,hg2⟩
 refine S1 @hz ?_
 refine T0 ?_
 exact⟨M2,Thin.refl _,hg2⟩
def encS(s:List UInt8):List Value:=[.string (str s)]
abbrev QD(k:Nat)(M:Mem)(V:Value)(L:List (List UInt8)):Prop:=OwnL encS 1 k M V L
theorem Str_zero:qA.zero=some (.string ⟨#[]⟩):=rfl
theorem Str_bytes:qA.bytes≤1000:=by decide
theorem Vb(s:List UInt8):Jx qc 31 1 [(0,.string (str s))]=some (.cells false 1 (encS s)):=by kernel_rfl
theorem strapp{k:Nat}{M:Mem}{V:Value}{L:List (List UInt8)}(h:QD k M V L)(hk:k≤M.size)(hl:L.length≤1000000)(x:List UInt8):
 ∃M' V',JN qc (M.push (.cells false 1 (encS x))) 31 31 V (.slice (some ⟨M.size,0,none⟩) 1 1)=some (V',M')∧QA V'=some (M.size+1)∧QD k M' V' (L++[x])∧
  M'.size=M.size+2∧(∀b y,QA V≠some b→M.get b=some y→M'.get b=some y):=
 oapp qq Zp Str_zero sz_Str rfl qq (fun _=>rfl) Str_bytes h hk hl x 1
def blkAt(d:Dsk)(x:Ext)(i:Nat):List UInt8:=(d.sector (x.base.toNat+i)).take 224
theorem blocks_spec(P p q g:Nat)(d:Dsk)(D:Dep)(M:Mem)(h:DepAt M P p q g d D)(x:Ext)(n:Nat)(hn:x.head.n=(n:Int))(hb0:13≤x.base)(hb1:x.base+x.head.n≤(d.old.length:Int)):
 Abs.Spec qc 75 [.pointer (some ⟨P,0,none⟩),.agg x.cells.toArray] M fun u M'=>∃V,u=.tuple #[V,.int .i64 (Xv d x).2]∧QD M.size M' V (Xv d x).1∧More M M':=by
 have hd0:=h.dsk.ok.n
 obtain⟨Z,hZ⟩:∃Z,Z=Xv d x:=⟨_,rfl⟩
 rw[←hZ]
 unfold Xv at hZ
 rw[hn,qi]at hZ
 refine UX Tryz.func75 Tryz.results75 Tryz.ntmps75 fun hc hx k=>?_
 have bx:QS qc 102 (.agg x.cells.toArray)=some (.cells false (J6 qc 102) x.cells):=Kn _ rfl
 generalize J6 qc 102=s1 at bx
 have k7:cellIn 7 (some (.cells false s1 x.cells))=some (.int .i64 x.base):=rfl
 have k2:cellIn 2 (some (.cells false s1 x.cells))=some (.int .i64 (n:Nat)):=by rw[←hn];rfl
 obtain⟨b3,hb3⟩:∃b,b=M.size:=⟨_,rfl⟩
 obtain⟨M1,hM1⟩:∃M1,M1=M.push (.cells false s1 x.cells):=⟨_,rfl⟩
 have mo:More M M1:=by rw[hM1];exact More.push _ _
 have hs1:M1.size=M.size+1:=by rw[hM1,Mem.size_push]
 have g3:M1.get b3=some (.cells false s1 x.cells):=by rw[hM1,hb3,Mem.get_push_new]
 have h1:=h.same mo.get
 obtain⟨s,vo,vk,hrow,ho,hk⟩:=h1.row
 have c0:cellIn 0 (some (.cells false s (JQ p D vo vk)))=some (dp p):=rfl
 refine J0 (R1 @bx ?_)
 rw[←hM1,←hb3]
 refine J0 (R0 ?_)
 refine QR (fun f M'=>∃V,f=[(6,V)]∧QD M1.size M' V Z.1∧Z.2=0∧(∀b x,b<M1.size→M1.get b=some x→M'.get b=some x)∧M1.size≤M'.size) ?_ ?_
 ·refine J0 (R2 @g3 @k2 ?_)
  refine J8 (Jt (fun j f M'=>∃(i:Nat)(V:Value),j=n-i∧f=[(0,.pointer (some ⟨P,0,none⟩)),(3,.pointer (some ⟨b3,0,none⟩)),(6,V),(12,.int .i64 (n:Nat)),(13,.int .i64 (i:Nat))]∧i≤n∧(d.dead=true→i=0)∧
   QD M1.size M' V ((qG i).map (blkAt d x))∧(∀b x,b<M1.size→M1.get b=some x→M'.get b=some x)∧M1.size≤M'.size) n ?_ ?_)
  ·refine JK [0,3,6,12,13] ?_
   exact⟨M1,Thin.refl _,0,_,rfl,rfl,by omega,fun _=>rfl,OwnL.nil _ _,fun _ _ _ h=>h,qt _⟩
  ·rintro j f M' ⟨i,V,rfl,rfl,hi,hdz,hown,hold,hsz⟩
   refine J0 (R0 ?_)
   refine J0 (CC (decide ((i:Int)<(n:Int))) (fun hq=>J3 ?_) (fun hq=>Jp ?_))
   ·have hin:=of_decide_eq_true hq
    have hrow':=hold _ _ (Mem.get_lt hrow) hrow
    have g3':=hold _ _ (Mem.get_lt g3) g3
    have hdsk:DskAt M' p q g d:=h1.dsk.same fun b y hy=>hold b y (Mem.get_lt hy) hy
    have zw:IntKind.i64.wrap (x.base+(i:Int))=x.base+(i:Int):=Xl (by omega) (by omega)
    have w9:IntKind.i64.wrap ((i:Int)+1)=((i+1:Nat):Int):=by rw[Xl (by omega) (by omega)];omega
    have rs:=read_spec M' p q g d hdsk (x.base+(i:Int))
    simp only[zZ,reduceIte,yQ,yW,yX,yZ,yJ,yK,yV]
    refine J0 (J8 (J0 (R0 ?_)))
    refine J0 (D5 13 @hrow' @c0 @g3' @k7 @zw ?_)
    refine⟨by kernel_rfl,_,rs,?_⟩
    refine S0 ?_
    cases hdd:d.dead with
    |true=>
     have er:d.read (x.base+(i:Int))=([],7):=by
      unfold Dsk.read Dsk.may
      rw[if_pos hdd]
      rfl
     have hZ2:Z=([],7):=by rw[hZ,if_pos ⟨hdd,by omega⟩]
     have q70:((7:Int) !=0)=true:=rfl
     rw[er]
     refine J0 (J0 (R1 @q70 ?_))
     refine CT (J0 (R0 ?_))
     refine T0 ?_
     subst hZ2
     exact⟨_,Thin.refl _,_,rfl,OwnL.nil _ _,fun b y hb=>hold b y (by have:=Mem.get_lt (mo.get b y hb);omega) (mo.get b y hb),by omega⟩
    |false=>
     have et:(x.base+(i:Int)).toNat=x.base.toNat+i:=by omega
     have er:d.read (x.base+(i:Int))=(d.sector (x.base.toNat+i),0):=by
      have hm:d.may (x.base+(i:Int))=0:=by
       unfold Dsk.may
       rw[if_neg (by rw[hdd];decide),if_neg (by omega)]
      unfold Dsk.read
      rw[if_pos hm,et]
     have hl:=h.dsk.ok.sector (i:=x.base.toNat+i) (by omega)
     have sl:=fun get=>Zh get (str (d.sector (x.base.toNat+i))) 224 (by rw[str_size];omega)
     have sl2:∀get,JY qc get 9 (.string (str (d.sector (x.base.toNat+i)))) none (some (.int .i64 224))=some (.string (str (blkAt d x i))):=sl
     have q00:((0:Int) !=0)=false:=rfl
     have nw:=Vb (blkAt d x i)
     have e6:(qG i).map (blkAt d x)++[blkAt d x i]=(qG (i+1)).map (blkAt d x):=by rw[List.range_succ,List.map_append];rfl
     obtain⟨M4,V4,ap4,hb4,hown4,hs4,hold4⟩:=strapp hown hsz (by simp;omega) (blkAt d x i)
     rw[e6]at hown4
     rw[er]
     refine J0 (J0 (R1 @q00 ?_))
     refine CF (J3 ?_)
     simp only[zZ,reduceIte,yQ,yW,yX,yZ,yJ,yK,yV]
     refine R3 @sl2 @nw @ap4 ?_
     refine R1 @w9 ?_
     refine JK [0,3,6,12,13] ?_
     exact⟨_,Thin.refl _,n-(i+1),⟨i+1,V4,rfl,rfl,by omega,fun hd=>(by cases hd),hown4,fun b y hb hy=>hold4 b y (fun e=>by have:=(hown.live e).1;omega) (hold b y hb hy),by omega⟩,by omega⟩
   ·have hin:=of_decide_eq_false hq
    obtain rfl:i=n:=by omega
    have hZ2:Z=((qG i).map (blkAt d x),0):=by
     rw[hZ,if_neg]
     ·rfl
     ·rintro⟨a,b⟩
      have:=hdz a
      omega
    refine JK [6] ?_
    exact⟨_,Thin.refl _,V,rfl,by rw[hZ2];exact hown,by rw[hZ2],hold,hsz⟩
 rintro _ M2 ⟨V2,rfl,hown2,hz2,hold2,hs2⟩
 refine J0 (R0 ?_)
 refine T0 ?_
 exact⟨_,Thin.refl _,V2,by rw[hz2],hown2.le (by omega),fun b x hb=>hold2 b x (by have:=Mem.get_lt (mo.get b x hb);omega) (mo.get b x hb),by omega⟩
structure ArcOk(key:List UInt8)(a:Arc):Prop where
 may:a.head.okP
 ver:a.head.verify key=0
 len:(a.blocks.length:Int)=a.head.n
 size:∀b∈a.blocks,b.length=224
 root:str (rootV a.blocks)=a.head.root
def Arc.ext(a:Arc):Ext:=⟨a.head,13⟩
def Sure(a:Arc)(d:Dsk)(G:List Bool):Prop:=∀k b,G[k]?=some true→a.blocks[k]?=some b→∀t,d.poss (13+k) t→t=Jh b
theorem Sure.less{a:Arc}{d d':Dsk}{G:List Bool}(h:Sure a d G)(hp:∀i t,13≤i→d'.poss i t→d.poss i t∨∃k b,i=13+k∧a.blocks[k]?=some b∧t=Jh b):Sure a d' G:=fun k b hk hb t ht=>by
 rcases hp (13+k) t (by omega) ht with h1|⟨k',b',h1,h2,h3⟩
 ·exact h k b hk hb t h1
 ·obtain rfl:k=k':=by omega
  rw[hb]at h2;cases h2;exact h3
structure Hist(a:Arc)(d:Dsk)(e:Nat)(P:List Bool→Prop):Prop where
 ok:d.Ok
 n:20≤d.old.length
 s0:∀s,d.poss 0 s→∃k:Nat,1≤k∧k≤e∧s=Jh (Jm k)
 free:∀i,(2≤i∧i≤4)∨(6≤i∧i≤12)→∀s,d.poss i s→JO s=[]
 s1:∀s,d.poss 1 s→JO s=[]∨∃G,(G.length:Int)=a.head.n∧P G∧s=Jh (JW ⟨a.ext,G⟩)∧Sure a d G
 s5:∀s,d.poss 5 s→JO s=[]∨(s=Jh (JD a.ext)∧Sure a d (qd a.blocks.length true))
theorem Hist.less{a:Arc}{d d':Dsk}{e:Nat}{P:List Bool→Prop}(h:Hist a d e P)(hok:d'.Ok)(hn:d'.old.length=d.old.length)(hp:∀i t,d'.poss i t→d.poss i t):Hist a d' e P where
 ok:=hok
 n:=by rw[hn];exact h.n
 s0 s hs:=h.s0 s (hp _ _ hs)
 free i hi s hs:=h.free i hi s (hp _ _ hs)
 s1 s hs:=(h.s1 s (hp _ _ hs)).imp id fun⟨G,h1,h2,h3,h4⟩=>⟨G,h1,h2,h3,h4.less fun i t _ ht=>.inl (hp i t ht)⟩
 s5 s hs:=(h.s5 s (hp _ _ hs)).imp id fun⟨h1,h2⟩=>⟨h1,h2.less fun i t _ ht=>.inl (hp i t ht)⟩
theorem Hist.weaken{a:Arc}{d:Dsk}{e e':Nat}{P P':List Bool→Prop}(h:Hist a d e P)(he:e≤e')(hp:∀G,P G→P' G):Hist a d e' P' where
 ok:=h.ok
 n:=h.n
 s0 s hs:=by obtain⟨k,h1,h2,h3⟩:=h.s0 s hs;exact⟨k,h1,by omega,h3⟩
 free:=h.free
 s1 s hs:=(h.s1 s hs).imp id fun⟨G,h1,h2,h3,h4⟩=>⟨G,h1,hp G h2,h3,h4⟩
 s5:=h.s5
theorem Hist.record{a:Arc}{d:Dsk}{e:Nat}{P:List Bool→Prop}(h:Hist a d e P){x:List UInt8}(hx:x.length≤256)(hg:x=[]∨∃G,(G.length:Int)=a.head.n∧P G∧x=JW ⟨a.ext,G⟩∧Sure a d G):Hist a (d.write ((1:Nat):Int) x).1 e P:=by
 have hi:1<d.old.length:=by have:=h.n;omega
 have hp:∀i t,(d.write ((1:Nat):Int) x).1.poss i t→d.poss i t∨(i=1∧t=Jh x):=fun i t ht=>Dsk.write_poss hi hx ht
 have hs:∀G,Sure a d G→Sure a (d.write ((1:Nat):Int) x).1 G:=fun G hG=>hG.less fun i t hi ht=>by
  rcases hp i t ht with h1|⟨h1,_⟩
  ·exact .inl h1
  ·omega
 refine⟨Dsk.write_ok h.ok hi hx,by rw[Dsk.write_old hi hx];exact h.n,fun s ht=>?_,fun i hi s ht=>?_,fun s ht=>?_,fun s ht=>?_⟩
 ·rcases hp 0 s ht with h1|⟨h1,_⟩
  ·exact h.s0 s h1
  ·cases h1
 ·rcases hp i s ht with h1|⟨h1,_⟩
  ·exact h.free i hi s h1
  ·omega
 ·rcases hp 1 s ht with h1|⟨_,rfl⟩
  ·exact(h.s1 s h1).imp id fun⟨G,h2,h3,h4,h5⟩=>⟨G,h2,h3,h4,hs G h5⟩
  ·rcases hg with rfl|⟨G,h2,h3,rfl,h5⟩
   ·exact .inl blank_filled
   ·exact .inr ⟨G,h2,h3,rfl,hs G h5⟩
 ·rcases hp 5 s ht with h1|⟨h1,_⟩
  ·exact(h.s5 s h1).imp id fun⟨h2,h3⟩=>⟨h2,hs _ h3⟩
  ·cases h1
theorem Hist.cat{a:Arc}{d:Dsk}{e:Nat}{P:List Bool→Prop}(h:Hist a d e P)(hx:(JD a.ext).length≤256)(hg:Sure a d (qd a.blocks.length true)):Hist a (d.write ((5:Nat):Int) (JD a.ext)).1 e P:=by
 have hi:5<d.old.length:=by have:=h.n;omega
 have hp:∀i t,(d.write ((5:Nat):Int) (JD a.ext)).1.poss i t→d.poss i t∨(i=5∧t=Jh (JD a.ext)):=fun i t ht=>Dsk.write_poss hi hx ht
 have hs:∀G,Sure a d G→Sure a (d.write ((5:Nat):Int) (JD a.ext)).1 G:=fun G hG=>hG.less fun i t hi ht=>by
  rcases hp i t ht with h1|⟨h1,_⟩
  ·exact .inl h1
  ·omega
 refine⟨Dsk.write_ok h.ok hi hx,by rw[Dsk.write_old hi hx];exact h.n,fun s ht=>?_,fun i hi s ht=>?_,fun s ht=>?_,fun s ht=>?_⟩
 ·rcases hp 0 s ht with h1|⟨h1,_⟩
  ·exact h.s0 s h1
  ·cases h1
 ·rcases hp i s ht with h1|⟨h1,_⟩
  ·exact h.free i hi s h1
  ·omega
 ·rcases hp 1 s ht with h1|⟨h1,_⟩
  ·exact(h.s1 s h1).imp id fun⟨G,h2,h3,h4,h5⟩=>⟨G,h2,h3,h4,hs G h5⟩
  ·cases h1
 ·rcases hp 5 s ht with h1|⟨_,rfl⟩
  ·exact(h.s5 s h1).imp id fun⟨h2,h3⟩=>⟨h2,hs _ h3⟩
  ·exact .inr ⟨rfl,hs _ hg⟩
theorem Hist.data{a:Arc}{d:Dsk}{e:Nat}{P:List Bool→Prop}(h:Hist a d e P){k:Nat}{b:List UInt8}(hb:a.blocks[k]?=some b)(hx:b.length≤256)(hk:13+k<d.old.length):Hist a (d.write ((13+k:Nat):Int) b).1 e P:=by
 have hi:13+k<d.old.length:=hk
 have hp:∀i t,(d.write ((13+k:Nat):Int) b).1.poss i t→d.poss i t∨(i=13+k∧t=Jh b):=fun i t ht=>Dsk.write_poss hi hx ht
 have hs:∀G,Sure a d G→Sure a (d.write ((13+k:Nat):Int) b).1 G:=fun G hG=>hG.less fun i t _ ht=>by
  rcases hp i t ht with h1|⟨h1,h2⟩
  ·exact .inl h1
  ·exact .inr ⟨k,b,h1,hb,h2⟩
 refine⟨Dsk.write_ok h.ok hi hx,by rw[Dsk.write_old hi hx];exact h.n,fun s ht=>?_,fun i hi s ht=>?_,fun s ht=>?_,fun s ht=>?_⟩
 ·rcases hp 0 s ht with h1|⟨h1,_⟩
  ·exact h.s0 s h1
  ·omega
 ·rcases hp i s ht with h1|⟨h1,_⟩
  ·exact h.free i hi s h1
  ·omega
 ·rcases hp 1 s ht with h1|⟨h1,_⟩
  ·exact(h.s1 s h1).imp id fun⟨G,h2,h3,h4,h5⟩=>⟨G,h2,h3,h4,hs G h5⟩
  ·omega
 ·rcases hp 5 s ht with h1|⟨h1,_⟩
  ·exact(h.s5 s h1).imp id fun⟨h2,h3⟩=>⟨h2,hs _ h3⟩
  ·omega
theorem Hist.sync{a:Arc}{d:Dsk}{e:Nat}{P:List Bool→Prop}(h:Hist a d e P):Hist a d.sync.1 e P:=
 h.less (Dsk.sync_ok h.ok) (Dsk.sync_len h.ok.pos) fun _ _ ht=>Dsk.sync_poss h.ok.pos ht
theorem Hist.crash{a:Arc}{d:Dsk}{e:Nat}{P:List Bool→Prop}(h:Hist a d e P)(bits:Int):Hist a (d.crash bits) e P:=
 h.less (Dsk.crash_ok h.ok bits) (Dsk.crash_len d bits) fun _ _ ht=>(Dsk.crash_poss ht).1
theorem push_set(m:Mem)(x y:Blk):(m.push x).set m.size (some y)=m.push y:=by
 unfold Mem.push Mem.set Mem.size
 simp
theorem mk_SS(m:Mem)(n:Nat)(hn:n≤1000000):ZQ qc m 31 (.int .i64 (n:Nat)) (.int .i64 (n:Nat))=some (.slice (some ⟨m.size,0,none⟩) n n,m.push (.cells false 1 (qd n (.string ⟨#[]⟩)))):=by
 have hz:qA.zero=some (.string ⟨#[]⟩):=rfl
 have hb:qA.bytes≤100:=by decide
 have hs:qA.size=1:=rfl
 unfold ZQ
 simp only[qq,Zp,hz,hs]
 have hc:((qA.bytes:Nat):Int)*((n:Nat):Int)≤281474976710656:=by
  have:qA.bytes*n≤100*1000000:=Nat.mul_le_mul hb hn
  rw[←Int.natCast_mul];omega
 rw[if_pos ⟨rfl,by decide,rfl,by omega,Int.le_refl _,hc,by omega⟩]
 simp only[qi,Nat.mul_one]
 rfl
theorem copy_SS{m:Mem}{b o dl dc b2 o2 n nc s2:Nat}{r2:Bool}{cs cs2:List Value}(hb:m.get b=some (.cells false 1 cs))(hb2:m.get b2=some (.cells r2 s2 cs2))(h1:o2+min n dl≤cs2.length)(h2:o+min n dl≤cs.length):
 aCopy qc m 31 31 (.slice (some ⟨b,o,none⟩) dl dc) (.slice (some ⟨b2,o2,none⟩) n nc)=some (.int .i64 (min n dl:Nat),m.set b (some (.cells false 1 (setL cs o ((cs2.drop o2).take (min n dl)))))):=by
 have hs:qA.size=1:=rfl
 unfold aCopy
 simp only[qq,Zp,hs,hb,hb2,Nat.mul_one]
 rw[if_pos ⟨h1,h2⟩]
theorem sl_SS{get:Nat→Option Blk}{b len cap:Nat}{ro:Bool}{cs:List Value}(hb:get b=some (.cells ro 1 cs))(l:Nat)(h1:l≤len):
 JY qc get 31 (.slice (some ⟨b,0,none⟩) len cap) (some (.int .i64 (l:Nat))) none=some (.slice (some ⟨b,l,none⟩) (len-l) (cap-l)):=by
 have hs:qA.size=1:=rfl
 have hc:(0:Int)≤(l:Int)∧(l:Int)≤(len:Int):=by omega
 unfold JY X3
 simp only[qq,Zp,hs,hb,if_pos hc,if_true,Nat.mul_one,qy,qi]
theorem sl_SS2{get:Nat→Option Blk}{b len cap:Nat}{ro:Bool}{cs:List Value}(hb:get b=some (.cells ro 1 cs))(h:Nat)(h1:h≤cap):
 JY qc get 31 (.slice (some ⟨b,0,none⟩) len cap) none (some (.int .i64 (h:Nat)))=some (.slice (some ⟨b,0,none⟩) h cap):=by
 have hs:qA.size=1:=rfl
 have hc:(0:Int)≤(h:Int)∧(h:Int)≤(cap:Int):=by omega
 unfold JY X3
 simp only[qq,Zp,hs,hb,if_pos hc,if_true,Nat.mul_one,qy,qi,Nat.sub_zero]
theorem setL_mid:∀(a b c:List Value),b.length≤c.length→setL (a++c) a.length b=a++b++c.drop b.length
 | [],[],c,_=>by simp[setL]
 |a,x::b,[],h=>by simp at h
 |a,[],c,_=>by simp[setL]
 |a,x::b,y::c,h=>by
  have ih:=setL_mid (a++[x]) b c (by simpa using h)
  rw[setL]
  have e:(a++y::c).set a.length x=(a++[x])++c:=by simp
  rw[e]
  simp only[qp,List.length_cons,List.length_nil]at ih
  rw[ih]
  simp
theorem repeatS_spec(M:Mem)(b:Nat)(s:ByteArray)(n:Nat)(hn:1≤n)(hn2:n≤100000)(ro:Bool)(st:Nat)(hb:M.get b=some (.cells ro st [.string s])):
 Abs.Spec qc 46 [.slice (some ⟨b,0,none⟩) 1 1,.int .i64 (n:Nat)] M fun u M'=>u=.slice (some ⟨M.size,0,none⟩) n n∧M'=M.push (.cells false 1 (qd n (.string s))):=by
 refine Abs.Spec.walkM Tryz.func46 (by rfl) _ Tryz.results46 _ Tryz.ntmps46 (by simp) ?_
 intro hc hx k
 refine J0 (J1 ?_)
 simp only[zZ,reduceIte,yQ,yW,yX,yZ,yJ,yK,yV,zDk,Jc,Jb,Ja,J9,qf,qh]
 refine J0 (J0 (J1 ?_))
 simp only[zZ,reduceIte,yQ,yW,yX,yZ,yJ,yK,yV,zDk,Jc,Jb,Ja,J9,qf,qh]
 refine Qa (decide ((n:Int)<0)) (by rfl) (fun h=>absurd (of_decide_eq_true h) (by omega)) (fun _=>J3 ?_)
 simp only[zZ,reduceIte,yQ,yW,yX,yZ,yJ,yK,yV,zDk,Jc,Jb,Ja,J9,qf,qh]
 refine J0 (J1 ?_)
 have w1:IntKind.u64.wrap ((1:Nat):Int)=((1:Nat):Int):=by decide
 have w2:IntKind.u64.wrap (n:Int)=((n:Nat):Int):=by unfold IntKind.wrap;simp[IntKind.bits,IntKind.signed];omega
 have hmul:=fun m=>mul_spec 1 n (by omega) (by omega) m
 rw[show 1*n/18446744073709551616=0 by omega,show 1*n%18446744073709551616=n by omega]at hmul
 simp only[zZ,reduceIte,yQ,yW,yX,yZ,yJ,yK,yV,zDk,Jc,Jb,Ja,J9,qf,qh,w1,w2]
 refine⟨by kernel_rfl,_,hmul _,?_⟩
 rintro _ M9 ⟨rfl,e9⟩;replace e9:=e9.symm;subst e9
 have q1:decide (((0:Nat):Int)>0)=false:=rfl
 have q2:decide ((n:Int)>9223372036854775807)=false:=decide_eq_false (by omega)
 simp only[zZ,reduceIte,yQ,yW,yX,yZ,yJ,yK,yV,zDk,Jc,Jb,Ja,J9,qf,qh]
 refine J0 (J0 (J1 ?_))
 simp only[zZ,reduceIte,yQ,yW,yX,yZ,yJ,yK,yV,zDk,Jc,Jb,Ja,J9,qf,qh,q1,q2]
 refine Qa false (by rfl) (fun h=>by cases h) (fun _=>J3 ?_)
 simp only[zZ,reduceIte,yQ,yW,yX,yZ,yJ,yK,yV,zDk,Jc,Jb,Ja,J9,qf,qh]
 have w3:IntKind.i64.wrap ((n:Nat):Int)=((n:Nat):Int):=Xl (by omega) (by omega)
 refine J0 (J1 ?_)
 simp only[zZ,reduceIte,yQ,yW,yX,yZ,yJ,yK,yV,zDk,Jc,Jb,Ja,J9,qf,qh,w3,mk_SS M n (by omega)]
 obtain⟨M1,hM1⟩:∃M1,M1=M.push (.cells false 1 (qd n (.string ⟨#[]⟩))):=⟨_,rfl⟩
 obtain⟨g,hg⟩:∃g,g=M.size:=⟨_,rfl⟩
 have hg1:M1.get g=some (.cells false 1 (qd n (.string ⟨#[]⟩))):=by rw[hM1,hg,Mem.get_push_new]
 have hb1:M1.get b=some (.cells ro st [.string s]):=by rw[hM1,Mem.get_push_old (Q7 hb)];exact hb
 rw[←hM1,←hg]
 have hcp:=copy_SS (o:=0) (dl:=n) (dc:=n) (o2:=0) (n:=1) (nc:=1) hg1 hb1 (by simp;omega) (by simp;omega)
 rw[show min 1 n=1 by omega]at hcp
 refine J0 (J1 ?_)
 simp only[zZ,reduceIte,yQ,yW,yX,yZ,yJ,yK,yV,zDk,Jc,Jb,Ja,J9,qf,qh,hcp]
 refine J0 (J8 (Jt (fun j f M'=>∃c:Nat,1≤c∧c≤n∧j=n-c∧f=[(7,.slice (some ⟨g,0,none⟩) n n),(8,.int .i64 (c:Nat))]∧
  M'=M.push (.cells false 1 (qd c (.string s)++qd (n-c) (.string ⟨#[]⟩)))) (n-1) ?_ ?_))
 ·refine⟨[7,8],?_⟩
  simp only[zZ,reduceIte,yQ,yW,yX,yZ,yJ,yK,yV,keepF]
  refine⟨_,Thin.refl _,1,qt _,hn,rfl,rfl,?_⟩
  rw[hM1,hg,push_set]
  congr 2
  obtain⟨k,rfl⟩:∃k,n=k+1:=⟨n-1,by omega⟩
  rfl
 ·rintro j f M' ⟨c,hc1,hc2,rfl,rfl,hM'⟩
  refine J0 (J0 (J1 ?_))
  simp only[zZ,reduceIte,yQ,yW,yX,yZ,yJ,yK,yV,zDk,Jc,Jb,Ja,J9,qf,qh]
  refine Qa (decide ((c:Int)<(n:Int))) (by rfl) (fun h=>J3 ?_) (fun h=>Jp ?_)
  ·have h:=of_decide_eq_true h
   simp only[zZ,reduceIte,yQ,yW,yX,yZ,yJ,yK,yV]
   refine J8 (CW_draw2 hmix 7 (by kernel_rfl) ?_)
   have hg':M'.get g=some (.cells false 1 (qd c (.string s)++qd (n-c) (.string ⟨#[]⟩))):=by rw[hM',hg,Mem.get_push_new]
   have hcp2:=copy_SS (o:=c) (dl:=n-c) (dc:=n-c) (o2:=0) (n:=c) (nc:=n) hg' hg' (by simp;omega) (by simp;omega)
   have w5:IntKind.i64.wrap ((c:Int)+((min c (n-c):Nat):Int))=((c+min c (n-c):Nat):Int):=by rw[Xl (by omega) (by omega)];omega
   simp only[zZ,reduceIte,yQ,yW,yX,yZ,yJ,yK,yV,zDk,Jc,Jb,Ja,J9,qf,qh,sl_SS hg' c hc2,sl_SS2 hg' c hc2,hcp2,w5]
   refine⟨[7,8],?_⟩
   simp only[zZ,reduceIte,yQ,yW,yX,yZ,yJ,yK,yV,keepF]
   refine⟨_,Thin.refl _,n-(c+min c (n-c)),⟨c+min c (n-c),by omega,by omega,rfl,rfl,?_⟩,by omega⟩
   rw[hM',hg,push_set]
   congr 2
   have e1:(qd c (Value.string s)++qd (n-c) (Value.string ⟨#[]⟩)).take (min c (n-c))=qd (min c (n-c)) (Value.string s):=by
    rw[List.take_append_of_le_length (by simp;omega),List.take_replicate]
    congr 1;omega
   have e2:=setL_mid (qd c (Value.string s)) (qd (min c (n-c)) (Value.string s)) (qd (n-c) (Value.string ⟨#[]⟩)) (by simp;omega)
   rw[qE]at e2
   rw[e1,e2,List.replicate_append_replicate,qE,List.drop_replicate]
   congr 2
   omega
  ·have h:=of_decide_eq_false h
   have hcn:c=n:=by omega
   subst hcn
   simp only[zZ,reduceIte,yQ,yW,yX,yZ,yJ,yK,yV]
   refine J0 (J1 ?_)
   simp only[zZ,reduceIte,yQ,yW,yX,yZ,yJ,yK,yV,zDk,Jc,Jb,Ja,J9,qf,qh]
   refine Qx ?_
   simp only[zZ,reduceIte,yQ,yW,yX,yZ,yJ,yK,yV,zDk,Jc,Jb,Ja,J9,qf,qh,mEnd,sAnswer,sAnswer.sRes]
   refine⟨M',Thin.refl _,?_⟩
   rw[hM']
   simp
def zeroS:List UInt8:=qd 256 0
def Q6(n:Nat):Dsk:=⟨qd n zeroS,[],0, -1,false⟩
theorem newDsk_ok(n:Nat)(h1:1≤n)(h2:n≤1024):(Q6 n).Ok:=
 ⟨by simpa[Q6]using h2,by simp[Q6];omega,fun s hs=>by simp only[Q6,List.mem_replicate]at hs;rw[hs.2];exact qE,by simp[Q6],by simp[Q6],fun x hx=>by simp[Q6]at hx,fun x hx=>by simp[Q6]at hx,by simp[Q6],trivial⟩
theorem new_spec(M:Mem)(n:Nat)(h1:1≤n)(h2:n≤1024):
 Abs.Spec qc 11 [.int .i64 (n:Nat)] M fun u M'=>∃p q g,u=.tuple #[dp p,.int .i64 0]∧DskAt M' p q g (Q6 n)∧M.size≤p∧M.size≤q∧M.size≤g∧Only [] M M'∧M.size≤M'.size:=by
 refine Abs.Spec.walkM Tryz.func11 (by rfl) _ Tryz.results11 _ Tryz.ntmps11 (by simp) ?_
 intro hc hx k
 have q1:decide ((n:Int)<1)=false:=decide_eq_false (by omega)
 have q2:decide ((n:Int)>1024)=false:=decide_eq_false (by omega)
 refine J0 (J1 ?_)
 simp only[zZ,reduceIte,yQ,yW,yX,yZ,yJ,yK,yV,zDk,Jc,Jb,Ja,J9,qf,qh]
 refine J0 (J0 (J1 ?_))
 simp only[zZ,reduceIte,yQ,yW,yX,yZ,yJ,yK,yV,zDk,Jc,Jb,Ja,J9,qf,qh,q1,q2]
 refine Qa false (by rfl) (fun h=>by cases h) (fun _=>J3 ?_)
 simp only[zZ,reduceIte,yQ,yW,yX,yZ,yJ,yK,yV,zDk,Jc,Jb,Ja,J9,qf,qh]
 refine J0 (J1 ?_)
 simp only[zZ,reduceIte,yQ,yW,yX,yZ,yJ,yK,yV,zDk,Jc,Jb,Ja,J9,qf,qh]
 refine⟨by kernel_rfl,_,repeat_spec (str [0]) 256 (by omega) (by show 1*256≤_;omega) _,?_⟩
 rintro _ M9 ⟨rfl,e9⟩;replace e9:=e9.symm;subst e9
 have hrep:str (Lib.repeatL (str [0]).data.toList 256)=str zeroS:=by
  show str (Lib.repeatL [0] 256)=_
  rw[rep_zero];rfl
 rw[hrep]
 simp only[zZ,reduceIte,yQ,yW,yX,yZ,yJ,yK,yV,zDk,Jc,Jb,Ja,J9,qf,qh]
 have hbs:Jx qc 31 1 [(0,.string (str zeroS))]=some (.cells false 1 [.string (str zeroS)]):=by kernel_rfl
 refine J0 (J1 ?_)
 simp only[zZ,reduceIte,yQ,yW,yX,yZ,yJ,yK,yV,zDk,Jc,Jb,Ja,J9,qf,qh,hbs]
 refine⟨by kernel_rfl,_,repeatS_spec (M.push (.cells false 1 [.string (str zeroS)])) M.size (str zeroS) n h1 (by omega) false 1 (Mem.get_push_new _ _),?_⟩
 rintro _ M2 ⟨rfl,hM2⟩
 have hs2:M2.size=M.size+2:=by rw[hM2];simp only[Mem.size_push]
 have hold2:∀b x,M.get b=some x→M2.get b=some x:=fun b x hb=>by
  have:=Q7 hb
  rw[hM2,Mem.get_push_old (by rw[Mem.size_push];omega),Mem.get_push_old this];exact hb
 have hg2:M2.get (M.size+1)=some (.cells false 1 (qd n (.string (str zeroS)))):=by
  have:=Mem.get_push_new (M.push (.cells false 1 [.string (str zeroS)])) (.cells false 1 (qd n (.string (str zeroS))))
  rw[Mem.size_push]at this
  rw[hM2];exact this
 have hbx:QS qc 92 (.agg #[.slice (some ⟨M.size+1,0,none⟩) n n,.map (some M2.size),.int .i64 (-1),.bool false])=some (.cells false (J6 qc 92) [.slice (some ⟨M.size+1,0,none⟩) n n,.map (some M2.size),.int .i64 (-1),.bool false]):=bx_Dsk _ rfl
 generalize J6 qc 92=s1 at hbx
 have hbd:Qo qc 92 [(0,.slice (some ⟨M.size+1,0,none⟩) n n),(1,.map (some M2.size)),(2,.int .i64 (-1))]=some (.agg #[.slice (some ⟨M.size+1,0,none⟩) n n,.map (some M2.size),.int .i64 (-1),.bool false]):=by kernel_rfl
 simp only[zZ,reduceIte,yQ,yW,yX,yZ,yJ,yK,yV,zDk,Jc,Jb,Ja,J9,qf,qh,Mem.size_push,hbd,hbx]
 refine Qx ?_
 simp only[zZ,reduceIte,yQ,yW,yX,yZ,yJ,yK,yV,zDk,Jc,Jb,Ja,J9,qf,qh,mEnd,sAnswer,sAnswer.sRes]
 refine⟨_,Thin.refl _,M2.size+1,M2.size,M.size+1,rfl,⟨newDsk_ok n h1 h2,⟨s1,?_⟩,?_,?_,by omega,by omega,by omega⟩,by omega,by omega,by omega,fun b x _ hb=>?_,by simp only[Mem.size_push];omega⟩
 ·have:=Mem.get_push_new (M2.push (.kv false [] 0)) (.cells false s1 [.slice (some ⟨M.size+1,0,none⟩) n n,.map (some M2.size),.int .i64 (-1),.bool false])
  rw[Mem.size_push]at this
  rw[this]
  simp[dskC,Q6]
 ·rw[Mem.get_push_old (by rw[Mem.size_push];omega),Mem.get_push_new];rfl
 ·rw[Mem.get_push_old (by rw[Mem.size_push];omega),Mem.get_push_old (by omega),hg2]
  simp[Q6]
 ·have:=Q7 hb
  rw[Mem.get_push_old (by rw[Mem.size_push];omega),Mem.get_push_old (by omega)]
  exact hold2 b x hb
theorem app_push(M:Mem)(N:List (Option Blk))(y:Blk):(M.app N).push y=M.app (N++[some y]):=by
 simp[Mem.app,Mem.push]
theorem UU(M:Mem)(N:List (Option Blk)):(M.app N).size=M.size+N.length:=by
 simp[Mem.app,Mem.size]
theorem app_set(M:Mem)(N:List (Option Blk))(g:Nat)(o:Option Blk)(hg:M.size≤g):(M.app N).set g o=M.app (N.set (g-M.size) o):=by
 unfold Mem.app Mem.set
 unfold Mem.size at hg
 simp only
 rw[qo _ _ hg,List.map_set]
 rfl
theorem own_set{N:List (Option Blk)}(h:N.all Vl=true)(i:Nat)(o:Option Blk)(ho:Vl o=true):(N.set i o).all Vl=true:=by
 rw[List.all_eq_true]at h ⊢
 intro x hx
 rcases qx hx with hx|rfl
 ·exact h x hx
 ·exact ho
section
variable {α : Type} {enc : α → List Value} {N : Nat}
variable {P : Program} {t tx e d : TypeId} {i : TypeInfo} {z : Value}
theorem oappx(hu:P.underlying t=some (.slice e))(hi:P.info? e=some i)(hz:i.zero=some z)(hs:i.size=N)(hzc:z.cells.toList.length=N)(hx:P.underlying tx=some (.slice d))(henc:∀a,(enc a).length=N)(hby:i.bytes≤1000)
 {k:Nat} {M0 M:Mem} {N0:List (Option Blk)} {V:Value} {L:List α} (hM:M=M0.app N0) (hN0:N0.all Vl=true) (h:OwnL enc N k M V L) (hk0:M0.size≤k) (hk:k≤M.size) (hl:L.length≤1000000) (x:α) (sn:Nat):
 ∃N1 V',JN P (M.push (.cells false sn (enc x))) t tx V (.slice (some ⟨M.size,0,none⟩) 1 1)=some (V',M0.app N1)∧N1.all Vl=true∧OwnL enc N k (M0.app N1) V' (L++[x])∧
  (M0.app N1).size=M.size+2∧(∃a n c,V'=.slice a n c):=by
 have hsrc:=src_block (P:=P) (m:=M.push (.cells false sn (enc x))) (c:=1) (k:=1) (N:=N) (news:=enc x) (ro:=false) (s:=sn) hx (Mem.get_push_new M _) (by rw[henc];omega)
 rcases h with⟨rfl,rfl⟩|⟨h0,g,hgk,rfl,hg⟩
 ·have ha:=gapp_nil (P:=P) (N:=N) (k:=1) (news:=enc x) hu hi hz hs hzc (M.push (.cells false sn (enc x))) hsrc (by decide) (by omega) (by decide)
  rw[Mem.size_push]at ha
  have e1:(M.push (.cells false sn (enc x))).push (.cells false N (enc x))=M0.app (N0++[some (Blk.cells false sn (enc x))]++[some (Blk.cells false N (enc x))]):=by rw[hM,app_push,app_push]
  rw[e1]at ha
  refine⟨_,_,ha,?_,.inr ⟨by simp,M.size+1,by omega,rfl,?_⟩,?_,_,_,_,rfl⟩
  ·rw[qH,qH,hN0];rfl
  ·rw[←e1]
   have:=Mem.get_push_new (M.push (.cells false sn (enc x))) (.cells false N (enc x))
   rw[Mem.size_push]at this
   rw[this]
   simp
  ·rw[←e1];simp only[Mem.size_push]
 ·have hgl:=Mem.get_lt hg
  have ha:=gapp (P:=P) (N:=N) (k:=1) (n:=L.length) (cs:=L.flatMap enc) (news:=enc x) hu hi hz hs hzc (M.push (.cells false sn (enc x))) hsrc (by decide)
   (by rw[Mem.get_push_old hgl];exact hg) (flat_length henc L) (by have:=Nat.mul_le_mul (show L.length+1≤1000001 by omega) hby;omega) (by omega)
  rw[Mem.size_push]at ha
  have e1:((M.push (.cells false sn (enc x))).set g none).push (.cells false N (L.flatMap enc++enc x))=M0.app ((N0++[some (Blk.cells false sn (enc x))]).set (g-M0.size) none++[some (Blk.cells false N (L.flatMap enc++enc x))]):=by rw[hM,app_push,app_set _ _ _ _ (by omega),app_push]
  rw[e1]at ha
  refine⟨_,_,ha,?_,.inr ⟨by simp,M.size+1,by omega,by simp,?_⟩,?_,_,_,_,rfl⟩
  ·rw[qH,own_set (by rw[qH,hN0];rfl) _ _ rfl];rfl
  ·rw[←e1]
   have:=Mem.get_push_new ((M.push (.cells false sn (enc x))).set g none) (.cells false N (L.flatMap enc++enc x))
   rw[Mem.size_set,Mem.size_push]at this
   rw[this,List.flatMap_append];simp
  ·rw[←e1];simp only[Mem.size_push,Mem.size_set]
end
def StepE(M:Mem)(o:Option Ext)(p p':List (Option Blk)×Value):Prop:=match o with
 |some x=>JN qc ((M.app p.1).push (.cells false 8 x.cells)) 128 128 p.2 (.slice (some ⟨(M.app p.1).size,0,none⟩) 1 1)=some (p'.2,M.app p'.1)
 |none=>p'=p
def InvE(M:Mem)(es:List (Option Ext))(i:Nat)(p:List (Option Blk)×Value):Prop:=p.1.all Vl=true∧Vw M.size (M.app p.1) p.2 ((es.take i).filterMap id)
theorem chainE(M:Mem)(es:List (Option Ext))(hl:es.length≤1000):∀n,n≤es.length→∃sq:Nat→List (Option Blk)×Value,sq 0=([],.slice none 0 0)∧(∀i,i≤n→InvE M es i (sq i))∧∀(i:Nat) o,i<n→es[i]?=some o→StepE M o (sq i) (sq (i+1)):=by
 intro n
 induction n with
 |zero=>
  intro _
  refine⟨fun _=>([],.slice none 0 0),rfl,fun i hi=>?_,fun i o hi=>by omega⟩
  obtain rfl:i=0:=by omega
  exact⟨rfl,OwnL.nil _ _⟩
 |succ n ih=>
  intro hn
  obtain⟨sq,h0,h1,h2⟩:=ih (by omega)
  obtain⟨o,ho⟩:∃o,es[n]?=some o:=⟨_,qj (by omega)⟩
  have hst:=filtm_step ho
  obtain⟨p',hp1,hp2⟩:∃p',InvE M es (n+1) p'∧StepE M o (sq n) p':=by
   obtain⟨i1,i2⟩:=h1 n (qt _)
   cases o with
   |none=>
    refine⟨sq n,⟨i1,?_⟩,rfl⟩
    rw[hst,Option.toList_none,List.append_nil];exact i2
   |some x=>
    have hlen:=filtm_len es n
    obtain⟨N1,V',a1,a2,a3,_⟩:=oappx Tryz.underlying128 inf_Ext Ext_zero sz_Ext rfl Tryz.underlying128 (fun _=>rfl) Ext_bytes (M0:=M) rfl i1 i2 (qt _) (by rw[UU];omega) (by omega) x 8
    exact⟨(N1,V'),⟨a2,by rw[hst];exact a3⟩,a1⟩
  refine⟨fun j=>if j=n+1 then p' else sq j,by simp[h0],fun i hi=>?_,fun i o' hi ho'=>?_⟩
  ·by_cases e:i=n+1
   ·subst e;simpa using hp1
   ·simp only[e,if_false];exact h1 i (by omega)
  ·by_cases e:i=n
   ·subst e
    rw[ho]at ho';cases ho'
    simpa using hp2
   ·have e1:¬i=n+1:=by omega
    have e2:¬i+1=n+1:=by omega
    simp only[e1,e2,if_false]
    exact h2 i o' (by omega) ho'
def esOf(D:Dep):List (Option Ext):=D.kept++D.opn.map fun o=>o.map Rec.x
theorem esOf_places(D:Dep):(esOf D).filterMap id=D.places:=by
 unfold esOf Dep.places Qq
 rw[List.filterMap_append]
 congr 1
 induction D.opn with
 |nil=>rfl
 |cons o r ih=>cases o<;>simp_all
theorem ZO(M:Mem)(N:List (Option Blk))(b:Nat)(x:Blk)(h:M.get b=some x):(M.app N).get b=some x:=by
 have hl:=Mem.get_lt h
 unfold Mem.size at hl
 unfold Mem.get at h ⊢
 unfold Mem.app
 simp only
 rw[qr hl]
 exact h
theorem places_exact(P p q g:Nat)(d:Dsk)(D:Dep)(M:Mem)(h:DepAt M P p q g d D):
 ∃V N,Abs.Spec qc 59 [.pointer (some ⟨P,0,none⟩)] M (fun u M'=>u=V∧M'=M.app N)∧N.all Vl=true∧Vw M.size (M.app N) V D.places:=by
 have hel:(esOf D).length=12:=by unfold esOf;rw[qp,List.length_map,h.ok.kept,h.ok.opn]
 obtain⟨sq,sq0,inv,stp⟩:=chainE M (esOf D) (by omega) 12 (by omega)
 have inv12:=inv 12 (qt _)
 unfold InvE at inv12
 rw[qB (by omega),esOf_places]at inv12
 refine⟨(sq 12).2,(sq 12).1,?_,inv12.1,inv12.2⟩
 have esK:∀(i:Nat) o,D.kept[i]?=some o→(esOf D)[i]?=some o:=fun i o hi=>by
  unfold esOf
  rw[qr (qe.1 hi).1];exact hi
 have esO:∀(i:Nat) o,D.opn[i]?=some o→(esOf D)[8+i]?=some (o.map Rec.x):=fun i o hi=>by
  unfold esOf
  rw[qk (by rw[h.ok.kept];omega),h.ok.kept,Nat.add_sub_cancel_left,List.getElem?_map,hi];rfl
 have appM:∀N b x,M.get b=some x→(M.app N).get b=some x:=fun N b x=>ZO M N b x
 refine UX Tryz.func59 Tryz.results59 Tryz.ntmps59 fun hc hx k=>?_
 obtain⟨s,vo,vk,hrow,ho,hk⟩:=h.row
 have l4:vo.length=4:=by rw[ho.len,h.ok.opn]
 have l8:vk.length=8:=by rw[hk.len,h.ok.kept]
 have rk:=row_kept s p D l4 l8
 have ro:=row_opn s p D l4 l8
 have z9:∀i:Nat,i<100→IntKind.i64.wrap ((i:Int)+1)=((i+1:Nat):Int):=fun i hi=>by rw[Xl (by omega) (by omega)];omega
 have eM:M=M.app (sq 0).1:=by rw[sq0];simp[Mem.app]
 have eV:(Value.slice none 0 0)=(sq 0).2:=by rw[sq0]
 have hrowA:=appM (sq 0).1 _ _ hrow
 refine J0 (R0 ?_)
 refine J0 (R0 ?_)
 rw[eM,eV]
 refine QR (fun f M'=>f=[(0,.pointer (some ⟨P,0,none⟩)),(3,(sq 8).2)]∧M'=M.app (sq 8).1) ?_ ?_
 ·refine J0 (R2 @hrowA @rk ?_)
  refine J8 (Jt (fun j f M'=>∃(i:Nat),j=8-i∧f=[(0,.pointer (some ⟨P,0,none⟩)),(3,(sq (i)).2),(11,.agg vk.toArray),(12,.int .i64 (i:Nat))]∧i≤8∧M'=M.app (sq (i)).1) 8 ?_ ?_)
  ·refine JK [0,3,11,12] ?_
   exact⟨_,Thin.refl _,0,rfl,rfl,by omega,rfl⟩
  ·rintro j f M' ⟨i,rfl,rfl,hi,rfl⟩
   refine J0 (R0 ?_)
   refine J0 (CC (decide ((i:Int)<8)) (fun hq=>J3 ?_) (fun hq=>Jp ?_))
   ·have hi8:=of_decide_eq_true hq
    obtain⟨o,hoi⟩:∃o,D.kept[i]?=some o:=⟨_,qj (by rw[h.ok.kept];omega)⟩
    obtain⟨v,hv,hp⟩:=hk.at_ i o hoi
    have ix:=ix_A8 l8 hv
    have w9:=z9 i (by omega)
    have st:=stp i o (by omega) (esK i o hoi)
    simp only[zZ,reduceIte,yQ,yW,yX,yZ,yJ,yK,yV]
    refine J0 (J8 (J0 (R1 @ix ?_)))
    refine J0 (J1 ?_)
    cases o with
    |none=>
     obtain rfl:v=.pointer none:=hp
     have e1:sq (i+1)=sq (i):=st
     refine S0 ?_
     refine CF (J3 ?_)
     simp only[zZ,reduceIte,yQ,yW,yX,yZ,yJ,yK,yV]
     refine R1 @w9 ?_
     refine JK [0,3,11,12] ?_
     exact⟨_,Thin.refl _,8-(i+1),⟨i+1,rfl,by rw[e1],by omega,by rw[e1]⟩,by omega⟩
    |some x=>
     obtain⟨b,s',hb,rfl,gb⟩:=hp
     have gb':=appM (sq i).1 _ _ gb
     have rx:Jv 8 0 (some (.cells false s' x.cells))=some (.agg x.cells.toArray):=rfl
     have nw:=new_ext1 x
     have ap4:JN qc ((M.app (sq (i)).1).push (.cells false 8 x.cells)) 128 128 (sq (i)).2 (.slice (some ⟨(M.app (sq (i)).1).size,0,none⟩) 1 1)=some ((sq (i+1)).2,M.app (sq (i+1)).1):=st
     refine S0 ?_
     refine CT (R4 @gb' @rx @nw @ap4 ?_)
     refine R1 @w9 ?_
     refine JK [0,3,11,12] ?_
     exact⟨_,Thin.refl _,8-(i+1),⟨i+1,rfl,rfl,by omega,rfl⟩,by omega⟩
   ·have hi8:=of_decide_eq_false hq
    obtain rfl:i=8:=by omega
    refine JK [0,3] ?_
    exact⟨_,Thin.refl _,rfl⟩
 rintro _ _ ⟨rfl,rfl⟩
 have hrowA:=appM (sq 8).1 _ _ hrow
 refine QR (fun f M'=>f=[(3,(sq 12).2)]∧M'=M.app (sq 12).1) ?_ ?_
 ·refine J0 (R2 @hrowA @ro ?_)
  refine J8 (Jt (fun j f M'=>∃(i:Nat),j=4-i∧f=[(0,.pointer (some ⟨P,0,none⟩)),(3,(sq (8+i)).2),(27,.agg vo.toArray),(28,.int .i64 (i:Nat))]∧i≤4∧M'=M.app (sq (8+i)).1) 4 ?_ ?_)
  ·refine JK [0,3,27,28] ?_
   exact⟨_,Thin.refl _,0,rfl,rfl,by omega,rfl⟩
  ·rintro j f M' ⟨i,rfl,rfl,hi,rfl⟩
   refine J0 (R0 ?_)
   refine J0 (CC (decide ((i:Int)<4)) (fun hq=>J3 ?_) (fun hq=>Jp ?_))
   ·have hi8:=of_decide_eq_true hq
    obtain⟨o,hoi⟩:∃o,D.opn[i]?=some o:=⟨_,qj (by rw[h.ok.opn];omega)⟩
    obtain⟨v,hv,hp⟩:=ho.at_ i o hoi
    have ix:=ix_A4 l4 hv
    have w9:=z9 i (by omega)
    have st:=stp (8+i) (o.map Rec.x) (by omega) (esO i o hoi)
    simp only[zZ,reduceIte,yQ,yW,yX,yZ,yJ,yK,yV]
    refine J0 (J8 (J0 (R1 @ix ?_)))
    refine J0 (J1 ?_)
    cases o with
    |none=>
     obtain rfl:v=.pointer none:=hp
     have e1:sq (8+i+1)=sq (8+i):=st
     refine S0 ?_
     refine CF (J3 ?_)
     simp only[zZ,reduceIte,yQ,yW,yX,yZ,yJ,yK,yV]
     refine R1 @w9 ?_
     refine JK [0,3,27,28] ?_
     exact⟨_,Thin.refl _,4-(i+1),⟨i+1,rfl,by rw[←Nat.add_assoc,e1],by omega,by rw[←Nat.add_assoc,e1]⟩,by omega⟩
    |some x=>
     obtain⟨b,s',hb,rfl,gb⟩:=hp
     have gb':=appM (sq (8+i)).1 _ _ gb
     have rx:Jv 8 0 (some (.cells false s' x.cells))=some (.agg x.x.cells.toArray):=rfl
     have nw:=new_ext1 x.x
     have ap4:JN qc ((M.app (sq (8+i)).1).push (.cells false 8 x.x.cells)) 128 128 (sq (8+i)).2 (.slice (some ⟨(M.app (sq (8+i)).1).size,0,none⟩) 1 1)=some ((sq (8+i+1)).2,M.app (sq (8+i+1)).1):=st
     refine S0 ?_
     refine CT (R4 @gb' @rx @nw @ap4 ?_)
     refine R1 @w9 ?_
     refine JK [0,3,27,28] ?_
     exact⟨_,Thin.refl _,4-(i+1),⟨i+1,rfl,rfl,by omega,rfl⟩,by omega⟩
   ·have hi8:=of_decide_eq_false hq
    obtain rfl:i=4:=by omega
    refine JK [3] ?_
    exact⟨_,Thin.refl _,rfl⟩
 rintro _ _ ⟨rfl,rfl⟩
 refine J0 (R0 ?_)
 refine T0 ?_
 exact⟨_,Thin.refl _,by rw[←eM]⟩
end Go.Proofs.YteccmcpaheepcaaGreatDoor
namespace Go.Proofs.YteccmcpaheepcaaGreatDoor.Abs
open Go Go.RowKit
section
variable [Defs]
theorem SW_drawG{P:Program}{n:Nat}{Q:Exit→AL→Mem→Prop}{f:AL}{m:Mem}{id:Nat}{ops:Array Oper}(hmix:P.follows .mixedOrders=true)(q:Nat)(hq:Qm ops q=true)(hqs:Nat.ble q ops.size=true)
 (h:Uk P n ops.toList m (fun f' M=>sOps P n ops.toList (Q .normal) (ops.toList.drop q) f' M) false (ops.toList.take q) f m):SW P n (.region id ops true) Q f m:=by
 intro a ha
 have hqs:=Nat.le_of_ble_eq_true hqs
 obtain⟨vs,Ns,f',h1,h2,h3,h4,_⟩:=sHead_runG 0 (fun _=>undef) (fun _=>[]) (a₀:=a) (m₀:=m) (QW hq) hqs (ops.toList.take q) 0 [] [] false f m (fun j=>by rw[List.getElem?_take,Array.getElem?_toList,qy]) (by omega) rfl rfl ha (by simp[Jq,Q5])
  (fun _ j=>by simp[JH]) (fun j hj=>by omega) (fun i o _ hi=>by omega) (fun i o _ hi=>by omega) (qt _) (fun j hj=>by omega) h
 exact AW_draw hmix q hq hqs (JX vs) (JH Ns) (fun i o hi ho=>h4 i o (Nat.zero_le _) hi ho) (V8 (fun f m a h1 h2=>⟨f,h1,h2⟩) _ f' _ _ h1 h2)
def sPhG(P:Program)(n:Nat)(all:List Oper)(K:AL→Mem→Prop):List (Nat×Nat)→Nat→AL→Mem→Prop
 | [],_,f,M=>K f M
 |(q,b')::r,b,f,M=>Uk P n all M (fun f1 M1=>sOps P n all (fun f2 M2=>sPhG P n all K r b' f2 M2) ((all.drop q).take (b'-q)) f1 M1) false ((all.drop b).take (q-b)) f M
theorem sPhG_from{P:Program}{n:Nat}{ops:Array Oper}{Q:Exit→AL→Mem→Prop}:∀(l:List (Nat×Nat))(b:Nat)(f:AL)(M:Mem)(a:List Value),phasesOK ops l b=true→Knows n f a→sPhG P n ops.toList (Q .normal) l b f M→
 From P ops (fun e a' m'=>∃f',Knows n f' a'∧Q e f' m') b a M
 | [],b,f,M,a,hok,hf,h=>From_end (Nat.le_of_ble_eq_true hok) ⟨f,hf,h⟩
 |(q,b')::r,b,f,M,a,hok,hf,h=>by
  simp only[phasesOK,Bool.and_eq_true]at hok
  obtain⟨hok,hrest⟩:=hok
  obtain⟨hho,hseq,hbar,hbq,hqb,hb'⟩:=phaseOK_spec hok
  have hid:∀k,k<b→JX ((qG b).map (idV ops a)) k=idV ops a k:=fun k hk=>by
   unfold JX
   rw[List.getElem?_map,List.getElem?_range hk];rfl
  have hnil:∀k,JH (qd b []) k=[]:=fun k=>by
   unfold JH
   rw[qm]
   split<;>rfl
  obtain⟨vs,Ns,f',h1,h2,h3,h4,h5,h6⟩:=sHead_runG b (idV ops a) (fun _=>[]) (a₀:=a) (m₀:=M) hho (by omega) ((ops.toList.drop b).take (q-b)) b ((qG b).map (idV ops a)) (qd b []) false f M
   (fun j=>by
    rw[List.getElem?_take,List.getElem?_drop,Array.getElem?_toList]
    by_cases hj:b+j<q
    ·rw[if_pos (by omega),if_pos hj]
    ·rw[if_neg (by omega),if_neg hj]) hbq (by simp) (by simp)
   (by rw[frameAt_id b fun k hk _=>hid k hk];exact hf)
   (by
    unfold Jq
    have:∀i,Q5 (JH (qd b [])) allS i=[]:=by
     intro i
     induction i with
     |zero=>rfl
     |succ i ih=>simp[Q5,ih,hnil]
    rw[this,List.append_nil])
   (fun _ j=>hnil j) (fun j hj=>by rw[hnil];rfl) (fun i o hi hi2=>by omega) (fun i o hi hi2=>by omega) (qt _) (fun j hj=>⟨hid j hj,hnil j⟩) h
  refine From_phase (v:=JX vs) (N:=JH Ns) hok (fun k hk=>(h6 k hk).1) (fun k hk=>(h6 k hk).2) h4 ?_
  refine V8 (fun f2 M2 a2 g1 g2=>?_) _ f' _ _ h1 h2
  exact sPhG_from r b' f2 M2 a2 hrest g1 g2
theorem SW_drawnG{P:Program}{n:Nat}{Q:Exit→AL→Mem→Prop}{f:AL}{m:Mem}{id:Nat}{ops:Array Oper}(hmix:P.follows .mixedOrders=true)(l:List (Nat×Nat))(hok:phasesOK ops l 0=true)
 (h:sPhG P n ops.toList (Q .normal) l 0 f m):SW P n (.region id ops true) Q f m:=fun a ha=>AW_from hmix (sPhG_from l 0 f m a hok ha h)
end
section
def XN(P:Program)(n:Nat)(all:List Oper) [K:Box (AL→Mem→Prop)]:List (Nat×Nat)→Nat→AL→Mem→Prop
 | [],_,f,M=>K.k f M
 |(q,b')::r,b,f,M=>@JM P n all M ⟨fun f1 M1=>@sOpsB P n all ⟨fun f2 M2=>XN P n all r b' f2 M2⟩ ((all.drop q).take (b'-q)) f1 M1⟩ ((all.drop b).take (q-b)) false f M
theorem sPhGB_eq(P:Program)(n:Nat)(all:List Oper)(K:AL→Mem→Prop):∀(l:List (Nat×Nat))(b:Nat)(f:AL)(M:Mem),@XN P n all ⟨K⟩ l b f M=sPhG P n all K l b f M
 | [],_,_,_=>rfl
 |(q,b')::r,b,f,M=>by
  have:(fun f2 M2=>@XN P n all ⟨K⟩ r b' f2 M2)=(fun f2 M2=>sPhG P n all K r b' f2 M2):=funext fun f2=>funext fun M2=>sPhGB_eq P n all K r b' f2 M2
  exact congrArg (fun G=>@JM P n all M ⟨fun f1 M1=>@sOpsB P n all ⟨G⟩ ((all.drop q).take (b'-q)) f1 M1⟩ ((all.drop b).take (q-b)) false f M) this
variable {P : Program} {n k : Nat} {f : AL} {m : Mem} {Q : Exit → AL → Mem → Prop}
theorem CW_drawG{id:Nat}{ops:Array Oper}(hmix:P.follows .mixedOrders=true)(q:Nat)(hq:Qm ops q=true)(hqs:Nat.ble q ops.size=true)
 (h:@JM P n ops.toList m ⟨fun f' M=>@sOpsB P n ops.toList ⟨Q .normal⟩ (ops.toList.drop q) f' M⟩ (ops.toList.take q) false f m):@CW P n k ⟨.region id ops true⟩ ⟨Q⟩ f m:=.of_SW (SW_drawG hmix q hq hqs h)
theorem CW_drawnG{id:Nat}{ops:Array Oper}(hmix:P.follows .mixedOrders=true)(l:List (Nat×Nat))(hok:phasesOK ops l 0=true)
 (h:@XN P n ops.toList ⟨Q .normal⟩ l 0 f m):@CW P n k ⟨.region id ops true⟩ ⟨Q⟩ f m:=.of_SW (SW_drawnG hmix l hok (by rw[←sPhGB_eq];exact h))
theorem JJ(M:Mem):M.app []=M:=by simp[Mem.app]
theorem Q1:(!([]:List (Option Blk)).isEmpty)=false:=rfl
end
end Go.Proofs.YteccmcpaheepcaaGreatDoor.Abs
namespace Go.Proofs.YteccmcpaheepcaaGreatDoor
open Go.RowKit Abs
theorem at0{P:Program}{k:FuncId}{xs:List Value}{m:Mem}{v:Value}(h:Abs.Spec P k xs m fun u M=>u=v∧M=m):Abs.Spec P k xs m fun u M=>u=v∧M=m.app []:=
 h.mono fun _ _ h=>by rw[JJ];exact h
theorem fits_spec(P p q g:Nat)(d:Dsk)(D:Dep)(M:Mem)(h:DepAt M P p q g d D)(hkey:D.key.length≤1000000)(x:Ext)(hm:JB x=true):
 Abs.Spec qc 70 [.pointer (some ⟨P,0,none⟩),.agg x.cells.toArray] M fun u M'=>u=.bool (XX D.key d.old.length D.places x)∧More M M':=by
 have hn:=h.dsk.ok.n
 obtain⟨hok,hb0,hb1⟩:=Kd hm
 have hn2:=VQ hok
 refine UX Tryz.func70 Tryz.results70 Tryz.ntmps70 fun hc hx k=>?_
 have bx:QS qc 102 (.agg x.cells.toArray)=some (.cells false (J6 qc 102) x.cells):=Kn _ rfl
 generalize J6 qc 102=s1 at bx
 have row:Jv 7 0 (some (.cells false s1 x.cells))=some (.agg x.head.cells.toArray):=rfl
 have k7:cellIn 7 (some (.cells false s1 x.cells))=some (.int .i64 x.base):=rfl
 have k2:cellIn 2 (some (.cells false s1 x.cells))=some (.int .i64 x.head.n):=rfl
 obtain⟨M1,hM1⟩:∃M1,M1=M.push (.cells false s1 x.cells):=⟨_,rfl⟩
 obtain⟨b3,hb3⟩:∃b,b=M.size:=⟨_,rfl⟩
 have mo:More M M1:=by rw[hM1];exact More.push _ _
 have g3:M1.get b3=some (.cells false s1 x.cells):=by rw[hM1,hb3,Mem.get_push_new]
 have h1:=h.same mo.get
 obtain⟨s,vo,vk,hrow,ho,hk⟩:=h1.row
 have c0:cellIn 0 (some (.cells false s (JQ p D vo vk)))=some (dp p):=rfl
 have c1:cellIn 1 (some (.cells false s (JQ p D vo vk)))=some (.string (str D.key)):=rfl
 have w1:IntKind.i64.wrap (x.base+x.head.n)=x.base+x.head.n:=Xl (by omega) (by omega)
 obtain⟨r,hr⟩:∃r,r=XX D.key d.old.length D.places x:=⟨_,rfl⟩
 rw[←hr]
 unfold XX at hr
 refine J0 (R1 @bx ?_)
 rw[←hM1,←hb3]
 refine J0 (J1 ?_)
 simp only[zZ,reduceIte,yQ,yW,yX,yZ,yJ,yK,yV,zDk,Jc,Jb,Ja,J9,XQ,vFunc]
 refine J0 (CW_drawG hmix 31 (by kernel_rfl) (by kernel_rfl) ?_)
 simp only[zZ,reduceIte,yQ,yW,yX,yZ,yJ,yK,yV,JM,Qc,QB,isVal,sGuardedV,JJ,Q1,zDk,Jc,Jb,Ja,J9,XQ,hrow,c1,g3,row]
 refine⟨by kernel_rfl,_,[],at0 (hverify_at D.key (by omega) x.head _),rfl,?_⟩
 have e1:(x.head.verify D.key==0)=decide (x.head.verify D.key=0):=by rw[Bool.eq_iff_iff];simp
 cases p1:(x.head.verify D.key==0)with
 |false=>
  rw[e1]at p1
  rw[p1]at hr
  rw[←e1]at p1
  simp only[zZ,reduceIte,yQ,yW,yX,yZ,yJ,yK,yV,JM,Qc,QB,isVal,sGuardedV,JJ,Q1,zDk,Jc,Jb,Ja,J9,XQ,hrow,c1,g3,row,p1]
  refine Qx ?_
  simp only[zZ,reduceIte,yQ,yW,yX,yZ,yJ,yK,yV,JM,Qc,QB,isVal,sGuardedV,JJ,Q1,zDk,Jc,Jb,Ja,J9,XQ,mEnd,sAnswer,sAnswer.sRes]
  exact⟨_,Thin.refl _,by rw[hr];rfl,mo⟩
 |true=>
  rw[e1]at p1
  rw[p1]at hr
  rw[←e1]at p1
  cases p2:decide (x.base≥13)with
  |false=>
   have p2':decide (13≤x.base)=false:=p2
   rw[p2']at hr
   simp only[zZ,reduceIte,yQ,yW,yX,yZ,yJ,yK,yV,JM,Qc,QB,isVal,sGuardedV,JJ,Q1,zDk,Jc,Jb,Ja,J9,XQ,hrow,c1,g3,row,p1,k7,p2]
   refine Qx ?_
   simp only[zZ,reduceIte,yQ,yW,yX,yZ,yJ,yK,yV,JM,Qc,QB,isVal,sGuardedV,JJ,Q1,zDk,Jc,Jb,Ja,J9,XQ,mEnd,sAnswer,sAnswer.sRes]
   exact⟨_,Thin.refl _,by rw[hr];rfl,mo⟩
  |true=>
   have p2':decide (13≤x.base)=true:=p2
   rw[p2']at hr
   simp only[zZ,reduceIte,yQ,yW,yX,yZ,yJ,yK,yV,JM,Qc,QB,isVal,sGuardedV,JJ,Q1,zDk,Jc,Jb,Ja,J9,XQ,hrow,c1,g3,row,p1,k7,p2,k2,w1,c0]
   refine⟨by kernel_rfl,_,[],at0 (dlen_spec _ p q g d h1.dsk),rfl,?_⟩
   cases p3:decide (x.base+x.head.n≤(d.old.length:Int))with
   |false=>
    rw[p3]at hr
    simp only[zZ,reduceIte,yQ,yW,yX,yZ,yJ,yK,yV,JM,Qc,QB,isVal,sGuardedV,JJ,Q1,zDk,Jc,Jb,Ja,J9,XQ,p3]
    refine Qx ?_
    simp only[zZ,reduceIte,yQ,yW,yX,yZ,yJ,yK,yV,JM,Qc,QB,isVal,sGuardedV,JJ,Q1,zDk,Jc,Jb,Ja,J9,XQ,mEnd,sAnswer,sAnswer.sRes]
    exact⟨_,Thin.refl _,by rw[hr];rfl,mo⟩
   |true=>
    rw[p3]at hr
    simp only[zZ,reduceIte,yQ,yW,yX,yZ,yJ,yK,yV,JM,Qc,QB,isVal,sGuardedV,JJ,Q1,zDk,Jc,Jb,Ja,J9,XQ,p3]
    obtain⟨V,N,pe,pN,hown⟩:=places_exact P p q g d D M1 h1
    have mo2:More M1 (M1.app N):=⟨fun b x hb=>ZO M1 N b x hb,by rw[UU];omega⟩
    refine⟨by kernel_rfl,_,N,pe,pN,?_⟩
    simp only[zZ,reduceIte,yQ,yW,yX,yZ,yJ,yK,yV,JM,Qc,QB,isVal,sGuardedV,JJ,Q1,zDk,Jc,Jb,Ja,J9,XQ]
    refine⟨by kernel_rfl,_,anyother_spec x hm b3 s1 _ _ V D.places hown (fun y hy=>fit_may (h.ok.fit y hy) hn) ?_ (mo2.get _ _ g3),?_⟩
    ·unfold Dep.places Qq
     have h2:=qz id D.kept
     have h3:=qz id D.opn
     rw[h.ok.kept]at h2
     rw[h.ok.opn]at h3
     rw[qp,List.length_map];omega
    rintro _ M3 ⟨rfl,mo3⟩
    simp only[zZ,reduceIte,yQ,yW,yX,yZ,yJ,yK,yV,JM,Qc,QB,isVal,sGuardedV,JJ,Q1,zDk,Jc,Jb,Ja,J9,XQ]
    refine Qx ?_
    simp only[zZ,reduceIte,yQ,yW,yX,yZ,yJ,yK,yV,JM,Qc,QB,isVal,sGuardedV,JJ,Q1,zDk,Jc,Jb,Ja,J9,XQ,mEnd,sAnswer,sAnswer.sRes]
    exact⟨_,Thin.refl _,by rw[hr];rfl,(mo.trans mo2).trans mo3⟩
theorem keys_spec(secret salt:ByteArray)(h1:secret.size≤140737488355000)(h2:salt.size≤140737488355000)(m:Mem):
 Abs.Spec qc 48 [.string secret,.string salt] m fun u M=>u=keysV secret.data.toList salt.data.toList∧M=m:=
 Abs.Spec.of_flat (by simp[flat]) rfl fun w=>keys_any secret salt w h1 h2
theorem ZW(s:List UInt8):(Sha.headKey s).length=32:=by
 have h32:∀k info:List UInt8,Sha.expand k info 32=(Sha.tag k (info++[1])).take 32:=fun _ _=>rfl
 rw[Sha.headKey,h32,qD,Sha.tag_length]
 decide
theorem encKey_len32(s t:List UInt8):(Sha.encKey s t).length=32:=by
 have h32:∀k info:List UInt8,Sha.expand k info 32=(Sha.tag k (info++[1])).take 32:=fun _ _=>rfl
 rw[Sha.encKey,h32,qD,Sha.tag_length]
 decide
theorem macKey_len32(s t:List UInt8):(Sha.macKey s t).length=32:=by
 have h32:∀k info:List UInt8,Sha.expand k info 32=(Sha.tag k (info++[1])).take 32:=fun _ _=>rfl
 rw[Sha.macKey,h32,qD,Sha.tag_length]
 decide
theorem read_at{d:Dsk}{i:Nat}(hi:i<d.old.length):d.read (i:Int)=if d.dead=true then([],7)else(d.sector i,0):=by
 unfold Dsk.read Dsk.may
 by_cases h:d.dead=true
 ·rw[if_pos h,if_pos h];rfl
 ·have h2:¬((i:Int)<0∨(d.old.length:Int)≤(i:Int)):=by omega
  simp only[if_neg h,if_neg h2,if_true,qi]
theorem sector_len{d:Dsk}(hok:d.Ok){i:Nat}(hi:i<d.old.length):(d.sector i).length=256:=(Dsk.poss_lt hok (Dsk.poss_sector hi)).2
theorem catTake_may{s:List UInt8}(h:(Xb s).2=0):JB (Xb s).1=true:=by
 unfold Xb at h ⊢
 split at h
 ·cases h
 ·rename_i h1
  rw[if_neg h1]
  split at h
  ·cases h
  ·rename_i h2
   rw[if_neg h2]
   split at h
   ·cases h
   ·rename_i h3
    rw[if_neg h3]
    simp only[not_or]at h3
    simpa using h3.2
theorem mayExt_n{x:Ext}(h:JB x=true):0≤x.head.n:=by
 have:=VQ (Kd h).1
 omega
theorem jouTake_may{s:List UInt8}(h:(QM s).2=0):JB (QM s).1.x=true∧((QM s).1.got.length:Int)=(QM s).1.x.head.n:=by
 unfold QM at h ⊢
 split at h
 ·cases h
 ·rename_i h1
  rw[if_neg h1]
  split at h
  ·cases h
  ·rename_i h2
   rw[if_neg h2]
   split at h
   ·cases h
   ·rename_i h3
    rw[if_neg h3]
    simp only[not_or]at h3
    have hm:JB ⟨(Vc (str (QG s 4 98))).1,(Sha.num (QG s 102 2):Nat)⟩=true:=by simpa using h3.2.1
    refine⟨hm,?_⟩
    have h0:=mayExt_n hm
    simp only at h0
    simp only
    rw[setTake_len (by simpa using h3.2.2)]
    omega
theorem places_none(k:List (Option Ext))(n:Nat):Qq k (qd n none)=Qq k []:=by
 unfold Qq
 rw[show(qd n (none:Option Rec)).filterMap id=[] by induction n with|zero=>rfl|succ n ih=>rw[List.replicate_succ];simpa using ih]
 rfl
theorem Up(d:Dsk)(key:List UInt8):∀k j,k≤j→j<8→(Jo d key k)[j]?=some none
 |0,j,_,hj=>by
  show(qd 8 (none:Option Ext))[j]?=_
  rw[qm,if_pos hj]
 |k+1,j,hk,hj=>by
  rw[Jo,qw (by omega)]
  exact Up d key k j (by omega) hj
theorem set_same{α:Type}{l:List α}{i:Nat}{x:α}(h:l[i]?=some x):l.set i x=l:=by
 apply List.ext_getElem?
 intro j
 by_cases e:i=j
 ·subst e
  rw[qv (qe.1 h).1,h]
 ·rw[qw e]
theorem fits_fitX{key:List UInt8}{n:Nat}{l:List Ext}{x:Ext}(h:XX key n l x=true):fitX key n x:=by
 unfold XX at h
 simp only[Bool.and_eq_true,decide_eq_true_eq]at h
 exact⟨h.1.1.1,h.1.1.2,h.1.2⟩
def Dep.fresh(key:List UInt8):Dep:=⟨key,0,qd 4 none,qd 8 none,0⟩
theorem ptrs_none{α:Type}(enc:α→List Value)(K:List Nat)(M:Mem)(n:Nat):PtrsAt enc K M (qd n none) (qd n (.pointer none)):=
 ⟨by simp,fun i o h=>by
  rw[qm]at h
  split at h
  ·rename_i hi
   cases h
   exact⟨.pointer none,by rw[qm,if_pos hi],rfl⟩
  ·cases h⟩
theorem fresh_ok(key:List UInt8)(n:Nat):(Dep.fresh key).Ok n:=
 ⟨by simp[Dep.fresh],by simp[Dep.fresh],fun r h=>by simp[Dep.fresh]at h,fun r h=>by simp[Dep.fresh]at h⟩
theorem depC_setE(p:Nat)(D:Dep)(vo vk:List Value)(n:Int):(JQ p D vo vk).set 2 (.int .i64 n)=JQ p { D with epoch:=n } vo vk:=rfl
theorem DepAt.turnE{M:Mem}{P p q g:Nat}{d:Dsk}{D:Dep}(h:DepAt M P p q g d D){s:Nat}{vo vk:List Value}(ho:PtrsAt Rec.cells [P,p,q,g] M D.opn vo)(hk:PtrsAt Ext.cells [P,p,q,g] M D.kept vk)
 (hrow:M.get P=some (.cells false s (JQ p D vo vk))) (n:Int):
 DepAt (M.set P (some (.cells false s ((JQ p D vo vk).set 2 (.int .i64 n))))) P p q g d { D with epoch:=n }:=by
 have hon:Only [P] M (M.set P (some (.cells false s ((JQ p D vo vk).set 2 (.int .i64 n))))):=Only.set (by simp) _
 refine⟨h.dsk.only hon (by simp;exact Ne.symm h.ne.1) (by simp;exact Ne.symm h.ne.2.1) (by simp;exact Ne.symm h.ne.2.2),⟨h.ok.opn,h.ok.kept,h.ok.fitO,h.ok.fitK⟩,⟨s,vo,vk,?_,ho.only hon (by simp),hk.only hon (by simp)⟩,h.ne⟩
 rw[Mem.get_set_same hrow,depC_setE]
theorem nextE_len(d:Dsk)(i:Int):(d.nextE i).1.old.length=d.old.length:=by
 unfold Dsk.nextE
 split
 ·rfl
 ·split
  ·rfl
  ·split
   ·exact QH _ _ _
   ·split
    ·exact(sync_len _).trans (QH _ _ _)
    ·exact(sync_len _).trans (QH _ _ _)
theorem opn_stick{key:List UInt8}{K:List (Option Ext)}{d:Dsk}{k:Nat}(h:(Jl key K d k).2.2≠0):∀n,k≤n→Jl key K d n=Jl key K d k:=by
 intro n hn
 induction n with
 |zero=>obtain rfl:k=0:=by omega
        rfl
 |succ n ih=>
  by_cases e:k=n+1
  ·rw[e]
  ·have:=ih (by omega)
   show(if(Jl key K d n).2.2≠0 then Jl key K d n else X8 key K (Jl key K d n).1 (Jl key K d n).2.1 n)=_
   rw[this,if_pos h]
theorem lastV_text(k:Nat)(h1:1≤k)(h2:k≤4294967295):lastV (Jh (Jm k))=((k:Int),0):=by
 have hl:(Jm (k:Int)).length=8:=by unfold Jm;rw[qp,Sha.fixed_length];rfl
 have e4:((Jh (Jm (k:Int))).drop 4).take 4=Sha.fixed (k:Int) 4:=by
  have:=Zc (s:=Jm (k:Int)) (a:=4) (n:=4) (by omega)
  unfold QG at this
  rw[this]
  unfold Jm
  rw[List.drop_left' (show markE.length=4 from rfl),qB (by rw[Sha.fixed_length];omega)]
 have e8:JO ((Jh (Jm (k:Int))).drop 8)=[]:=by
  rw[UA,←hl];exact filled_tail
 have hp:Lib.hasPrefix (Jh (Jm (k:Int))) markE=true:=by
  unfold Jh Jm
  rw[List.append_assoc]
  simp[Lib.hasPrefix,markE]
 have hn:Sha.num (Sha.fixed (k:Int) 4)=k:=by rw[num_fixed];exact Nat.mod_eq_of_lt (by omega)
 unfold lastV
 rw[if_pos hp,e4,e8,hn,if_neg (by simp;omega)]
theorem Z4:JO zeroS=[]:=by decide+kernel
theorem new_sector(n i:Nat)(hi:i<n):(Q6 n).sector i=zeroS:=by
 unfold Dsk.sector Q6
 simp only[Jr,List.find?_nil,Option.map_none,Option.getD_none,qm,if_pos hi,Option.getD_some]
theorem last_zeroS:lastV zeroS=(0,0):=by decide+kernel
theorem new_len(n:Nat):(Q6 n).old.length=n:=by simp[Q6]
theorem new_may(n i:Nat)(hi:i<n):(Q6 n).may (i:Int)=0:=by
 unfold Dsk.may
 rw[if_neg (by simp[Q6]),if_neg (by rw[new_len];omega)]
def JV(n:Nat):Dsk:=⟨Jh (Jm 1)::qd (n-1) zeroS,[],1, -1,false⟩
theorem next_new(n:Nat)(h1:1≤n)(h2:n≤1024):(Q6 n).nextE 0=(JV n,1,0):=by
 have hlen:=new_len n
 have hw:(Q6 n).write 0 (Jm 1)=(((Q6 n).burnt.put 0 (Jh (Jm 1))),0):=by
  have hl:(Jm 1).length=8:=by decide+kernel
  unfold Dsk.write
  rw[if_neg (by rw[show(Q6 n).may 0=0 from new_may n 0 (by omega)];simp),if_neg (by omega),if_neg (by show¬((-1:Int)=0);decide)]
  rfl
 obtain⟨D,hD⟩:∃D,D=(Q6 n).burnt.put 0 (Jh (Jm 1)):=⟨_,rfl⟩
 have hD2:D=⟨qd n zeroS,[(0,Jh (Jm 1),0)],1, -1,false⟩:=by rw[hD];rfl
 have hs:D.sync=(JV n,0):=by
  unfold Dsk.sync
  have hm:D.may 0=0:=by
   rw[hD2]
   unfold Dsk.may
   rw[if_neg (by simp),if_neg (by simp;omega)]
  have hbu:D.burnt=D:=by rw[hD2];rfl
  rw[if_neg (by rw[hm];simp),if_neg (by rw[hD2];show¬((-1:Int)=0);decide),hbu,hD2]
  unfold Dsk.synced JV
  simp only[Prod.mk.injEq,Dsk.mk.injEq,and_true]
  obtain⟨k,rfl⟩:∃k,n=k+1:=⟨n-1,by omega⟩
  rw[List.replicate_succ,List.mapIdx_cons,Nat.add_sub_cancel]
  congr 1
  apply List.ext_getElem?
  intro i
  rw[List.getElem?_mapIdx,qm]
  split
  ·simp[Jr]
  ·rfl
 have hlast:(Q6 n).lastE 0=(0,0):=by
  unfold Dsk.lastE
  rw[if_pos (show(Q6 n).may 0=0 from new_may n 0 (by omega)),new_sector n _ (by show 0<n;omega),last_zeroS]
 unfold Dsk.nextE
 rw[hlast]
 simp only[show((0:Int)+1)=1 from rfl,hw,←hD,hs,ne_eq,not_true_eq_false,if_false]
 rw[if_neg (by decide)]
theorem kept_blank{d:Dsk}{key:List UInt8}(h:∀i,i<8→JO (d.sector (5+i))=[]):∀k,k≤8→Jo d key k=qd 8 none
 |0,_=>rfl
 |k+1,hk=>by
  rw[Jo,kept_blank h k (by omega)]
  have:XD d key (qd 8 none) k=none:=by
   unfold XD
   rw[catTake_blank (h k (by omega)),if_neg (by simp)]
  rw[this]
  exact set_same (by rw[qm,if_pos (by omega)])
theorem opn_blank{d:Dsk}{key:List UInt8}{K:List (Option Ext)}(h:∀i,i<4→JO (d.sector (1+i))=[]):∀k,k≤4→Jl key K d k=(d,qd 4 none,0)
 |0,_=>rfl
 |k+1,hk=>by
  show(if(Jl key K d k).2.2≠0 then Jl key K d k else X8 key K (Jl key K d k).1 (Jl key K d k).2.1 k)=_
  rw[opn_blank h k (by omega),if_neg (by simp)]
  unfold X8
  rw[ZV (h k (by omega)),if_neg (by simp),if_neg (by simp)]
theorem open_new(n:Nat)(h1:13≤n)(h2:n≤1024)(key:List UInt8):openD (Q6 n) key=(JV n,some ⟨key,1,qd 4 none,qd 8 none,0⟩,0):=by
 have hk:Jo (Q6 n) key 8=qd 8 none:=kept_blank (fun i hi=>by rw[new_sector n _ (by omega)];exact Z4) 8 (qt _)
 have ho:Jl key (qd 8 none) (Q6 n) 4=(Q6 n,qd 4 none,0):=opn_blank (fun i hi=>by rw[new_sector n _ (by omega)];exact Z4) 4 (qt _)
 unfold openD
 rw[if_neg (by rw[new_len];omega),if_neg (by simp[Q6]),hk,ho,next_new n (by omega) h2]
 rfl
end Go.Proofs.YteccmcpaheepcaaGreatDoor
