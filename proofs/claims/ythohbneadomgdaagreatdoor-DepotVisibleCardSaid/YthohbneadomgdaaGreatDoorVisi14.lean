import Derived.Test.YthohbneadomgdaaGreatDoorVisi13
import Derived.Test.YthohbneadomgdaaGreatDoorVisi11
import Derived.Test.YthohbneadomgdaaGreatDoorVisi10
import Derived.Test.YthohbneadomgdaaGreatDoorVisi09
import Derived.Test.YthohbneadomgdaaGreatDoorVisi03
import Derived.Test.YthohbneadomgdaaGreatDoorVisi12
set_option linter.all false
set_option maxRecDepth 100000
set_option maxHeartbeats 16000000
open Nat renaming reduceLT→yQ,reduceEqDiff→yK,reduceAdd→yV,reduceSub→yY,reduceMul→yU
open Int renaming reduceToNat→yW,reduceLE→yX,reduceEq→yZ,reduceLT→yJ
open Go.Proofs.Tryz renaming prog→qc,underlying161→qe,underlying40→qh,underlying25→qq,t9→qC
open List renaming replicate→qd,getElem?_eq_some_iff→qf,getElem?_eq_getElem→qj,getElem?_append_right→qk,getElem?_replicate→qm,set_append_right→qo,length_append→qp,getElem?_append_left→qt,length_set→qv,getElem?_set_self→qw,getElem?_set_ne→qx,mem_or_eq_of_mem_set→qy,length_filterMap_le→qB,take_of_length_le→qD,not_mem_nil→qE,length_take→qF,length_replicate→qG,mem_of_getElem?→qH,range→qI,all_append→qJ,mem_cons→qK
open Int renaming toNat_natCast→qi
open Nat renaming le_refl→qu,zero_add→qA
namespace Go.Proofs.YthohbneadomgdaaGreatDoor
open Go.RowKit Abs
def PtrTo{α:Type}(enc:α→List Value)(K:List Nat)(M:Mem):Option α→Value→Prop
 |none,v=>v=.pointer none
 |some a,v=>∃b s,b∉K∧v=.pointer (some ⟨b,0,none⟩)∧M.get b=some (.cells false s (enc a))
structure PtrsAt{α:Type}(enc:α→List Value)(K:List Nat)(M:Mem)(l:List (Option α))(vs:List Value):Prop where
 len:vs.length=l.length
 at_:∀(i:Nat)(o:Option α),l[i]?=some o→∃v,vs[i]?=some v∧PtrTo enc K M o v
theorem PtrTo.same{α:Type}{enc:α→List Value}{K:List Nat}{M M':Mem}{o:Option α}{v:Value}(h:PtrTo enc K M o v)(hs:∀b x,b∉K→M.get b=some x→M'.get b=some x):PtrTo enc K M' o v:=by
 cases o with
 |none=>exact h
 |some a=>
  obtain⟨b,s,E,h2,I⟩:=h
  exact⟨b,s,E,h2,hs b _ E I⟩
theorem PtrsAt.same{α:Type}{enc:α→List Value}{K:List Nat}{M M':Mem}{l:List (Option α)}{vs:List Value}(h:PtrsAt enc K M l vs)(hs:∀b x,b∉K→M.get b=some x→M'.get b=some x):PtrsAt enc K M' l vs:=
 ⟨h.len,fun i o hi=>by obtain⟨v,h1,h2⟩:=h.at_ i o hi;exact⟨v,h1,h2.same hs⟩⟩
theorem PtrsAt.set{α:Type}{enc:α→List Value}{K:List Nat}{M:Mem}{l:List (Option α)}{vs:List Value}(h:PtrsAt enc K M l vs)(i:Nat)(o:Option α)(v:Value)(hv:PtrTo enc K M o v):PtrsAt enc K M (l.set i o) (vs.set i v):=
 ⟨by rw[qv,qv,h.len],fun j o' hj=>by
  by_cases e:i=j
  ·subst e
   have hl:i<l.length:=by have:=(qf.1 hj).1;rwa [qv]at this
   rw[qw hl]at hj
   cases hj
   exact⟨v,qw (by rw[h.len];exact hl),hv⟩
  ·rw[qx e]at hj ⊢
   exact h.at_ j o' hj⟩
def JW(p:Nat)(D:Dep)(vo vk:List Value):List Value:=[.pointer (some ⟨p,0,none⟩),.string (str D.key),.int .i64 D.epoch]++(vo++(vk++[.int .i64 D.staged]))
structure DepAt(M:Mem)(P p q g:Nat)(d:Dsk)(D:Dep):Prop where
 dsk:DskAt M p q g d
 ok:D.Ok d.old.length
 row:∃s vo vk,M.get P=some (.cells false s (JW p D vo vk))∧PtrsAt Rec.cells [P,p,q,g] M D.opn vo∧PtrsAt Ext.cells [P,p,q,g] M D.kept vk
 ne:P≠p∧P≠q∧P≠g
theorem DepAt.same{M M':Mem}{P p q g:Nat}{d:Dsk}{D:Dep}(h:DepAt M P p q g d D)(hs:∀b x,M.get b=some x→M'.get b=some x):DepAt M' P p q g d D:=
 ⟨h.dsk.same hs,h.ok,by
  obtain⟨s,vo,vk,h1,h2,h3⟩:=h.row
  exact⟨s,vo,vk,hs _ _ h1,h2.same fun b x _=>hs b x,h3.same fun b x _=>hs b x⟩,h.ne⟩
theorem DepAt.disk{M M':Mem}{P p q g:Nat}{d d':Dsk}{D:Dep}(h:DepAt M P p q g d D)(hd:DskAt M' p q g d')(hl:d'.old.length=d.old.length)(ho:Only [p,q,g] M M'):DepAt M' P p q g d' D:=
 ⟨hd,by rw[hl];exact h.ok,by
  obtain⟨s,vo,vk,h1,h2,h3⟩:=h.row
  have hk:∀b x,b∉ [P,p,q,g]→M.get b=some x→M'.get b=some x:=fun b x hb hx=>ho b x (by simp at hb ⊢;exact hb.2) hx
  exact⟨s,vo,vk,ho _ _ (by simp;exact h.ne) h1,h2.same hk,h3.same hk⟩,h.ne⟩
theorem depC_opn(p:Nat)(D:Dep)(vo vk:List Value)(hv:vo.length=4)(i:Nat)(hi:i<4):(JW p D vo vk)[3+i]?=vo[i]?:=by
 unfold JW
 rw[qk (by simp),qt (by simp;omega)]
 simp
theorem depC_kept(p:Nat)(D:Dep)(vo vk:List Value)(hv:vo.length=4)(hk:vk.length=8)(i:Nat)(hi:i<8):(JW p D vo vk)[7+i]?=vk[i]?:=by
 unfold JW
 rw[qk (by simp;omega),qk (by simp;omega),qt (by simp;omega)]
 simp[hv]
 congr 1
 omega
theorem ZB{α:Type}(f:α→Bool):∀(l:List (Option α))(i:Nat),(X6 f l i=none∧∀(j:Nat) a,l[j]?=some (some a)→f a=false)∨∃(j:Nat)(a:α),X6 f l i=some (i+j,a)∧l[j]?=some (some a)∧f a=true∧∀(k:Nat) b,k<j→l[k]?=some (some b)→f b=false
 | [],i=>.inl ⟨rfl,fun j a h=>by simp at h⟩
 |some a::r,i=>by
  unfold X6
  by_cases e:f a=true
  ·rw[if_pos e];exact .inr ⟨0,a,rfl,rfl,e,fun k b hk=>by omega⟩
  ·rw[if_neg e]
   have e':f a=false:=by simpa using e
   rcases ZB f r (i+1)with⟨h1,h2⟩|⟨j,b,h1,h2,h3,h4⟩
   ·refine .inl ⟨h1,fun j b hj=>?_⟩
    cases j with
    |zero=>simp at hj;subst hj;exact e'
    |succ j=>exact h2 j b (by simpa using hj)
   ·refine .inr ⟨j+1,b,by rw[h1];congr 2;omega,by simpa using h2,h3,fun k c hk hc=>?_⟩
    cases k with
    |zero=>simp at hc;subst hc;exact e'
    |succ k=>exact h4 k c (by omega) (by simpa using hc)
 |none::r,i=>by
  unfold X6
  rcases ZB f r (i+1)with⟨h1,h2⟩|⟨j,b,h1,h2,h3,h4⟩
  ·refine .inl ⟨h1,fun j b hj=>?_⟩
   cases j with
   |zero=>simp at hj
   |succ j=>exact h2 j b (by simpa using hj)
  ·refine .inr ⟨j+1,b,by rw[h1];congr 2;omega,by simpa using h2,h3,fun k c hk hc=>?_⟩
   cases k with
   |zero=>simp at hc
   |succ k=>exact h4 k c (by omega) (by simpa using hc)
theorem findAt_is{α:Type}{f:α→Bool}{l:List (Option α)}{j:Nat}{a:α}(h1:l[j]?=some (some a))(h2:f a=true)(h3:∀(k:Nat) b,k<j→l[k]?=some (some b)→f b=false):X6 f l 0=some (j,a):=by
 rcases ZB f l 0 with⟨_,h⟩|⟨O,Y,e,E,I,U⟩
 ·rw[h j a h1]at h2;cases h2
 ·rcases Nat.lt_trichotomy j O with hl|hl|hl
  ·rw[U j a hl h1]at h2;cases h2
  ·subst hl;rw[h1]at E;cases E;rw[e,qA]
  ·rw[h3 O Y hl E]at I;cases I
theorem findAt_not{α:Type}{f:α→Bool}{l:List (Option α)}(h3:∀(k:Nat) b,l[k]?=some (some b)→f b=false):X6 f l 0=none:=by
 rcases ZB f l 0 with⟨h,_⟩|⟨O,U,e,I,E,Y⟩
 ·exact h
 ·rw[h3 O U I]at E;cases E
def isRec(id:Int)(o:Option Rec):Bool:=match o with|some r=>decide (r.x.head.id=id)|none=>false
def isExt(id:Int)(o:Option Ext):Bool:=match o with|some x=>decide (x.head.id=id)|none=>false
theorem isrec_spec(o:Option Rec)(K:List Nat)(M:Mem)(v:Value)(hv:PtrTo Rec.cells K M o v)(b s:Nat)(ro:Bool)(id:Int)(hb:M.get b=some (.cells ro s [.int .i64 id])):
 Abs.Spec qc 77 [v,.pointer (some ⟨b,0,none⟩)] M fun u M'=>u=.bool (isRec id o)∧M'=M:=by
 refine K5 Tryz.func77 Tryz.results77 Tryz.ntmps77 fun hc hx k=>?_
 have E:cellIn 0 (some (.cells ro s [.int .i64 id]))=some (.int .i64 id):=rfl
 refine J0 (R0 ?_)
 cases o with
 |none=>
  obtain rfl:v=.pointer none:=hv
  refine J0 (D2 10 @hb @E ?_)
  refine T0 ?_
  exact⟨_,tR _,rfl,rfl⟩
 |some r=>
  obtain⟨b',U,_,rfl,I⟩:=hv
  have O:cellIn 0 (some (.cells false U r.cells))=some (.int .i64 r.x.head.id):=rfl
  have e:(r.x.head.id==id)=isRec id (some r):=by
   show _=decide (r.x.head.id=id)
   rw[Bool.eq_iff_iff];simp
  refine J0 (D5 10 @hb @E @I @O @e ?_)
  refine T0 ?_
  exact⟨_,tR _,rfl⟩
theorem isext_spec(o:Option Ext)(K:List Nat)(M:Mem)(v:Value)(hv:PtrTo Ext.cells K M o v)(b s:Nat)(ro:Bool)(id:Int)(hb:M.get b=some (.cells ro s [.int .i64 id])):
 Abs.Spec qc 79 [v,.pointer (some ⟨b,0,none⟩)] M fun u M'=>u=.bool (isExt id o)∧M'=M:=by
 refine K5 Tryz.func79 Tryz.results79 Tryz.ntmps79 fun hc hx k=>?_
 have E:cellIn 0 (some (.cells ro s [.int .i64 id]))=some (.int .i64 id):=rfl
 refine J0 (R0 ?_)
 cases o with
 |none=>
  obtain rfl:v=.pointer none:=hv
  refine J0 (D2 9 @hb @E ?_)
  refine T0 ?_
  exact⟨_,tR _,rfl,rfl⟩
 |some r=>
  obtain⟨b',U,_,rfl,I⟩:=hv
  have O:cellIn 0 (some (.cells false U r.cells))=some (.int .i64 r.head.id):=rfl
  have e:(r.head.id==id)=isExt id (some r):=by
   show _=decide (r.head.id=id)
   rw[Bool.eq_iff_iff];simp
  refine J0 (D5 9 @hb @E @I @O @e ?_)
  refine T0 ?_
  exact⟨_,tR _,rfl⟩
theorem place_rec{l:List (Option Rec)}{id:Int}{j:Nat}{a:Rec}(h1:l[j]?=some (some a))(h2:isRec id (some a)=true)(h3:∀(k:Nat) o,k<j→l[k]?=some o→isRec id o=false):Zq (X6 (fun x:Rec=>decide (x.x.head.id=id)) l 0)=(j:Int):=by
 rw[findAt_is (f:=fun x:Rec=>decide (x.x.head.id=id)) h1 h2 fun k b hk hb=>h3 k (some b) hk hb];rfl
theorem noplace_rec{l:List (Option Rec)}{id:Int}(h3:∀(k:Nat) o,l[k]?=some o→isRec id o=false):Zq (X6 (fun x:Rec=>decide (x.x.head.id=id)) l 0)= -1:=by
 rw[findAt_not (f:=fun x:Rec=>decide (x.x.head.id=id)) fun k b hb=>h3 k (some b) hb];rfl
theorem idxrec_spec(P off s0 b s c:Nat)(ro:Bool)(id:Int)(K:List Nat)(M:Mem)(C:List Value)(vs:List Value)(l:List (Option Rec))(hC:M.get P=some (.cells false s0 C))(hvs:∀(i:Nat) v,vs[i]?=some v→C[off+i]?=some v)(h:PtrsAt Rec.cells K M l vs)(hl:l.length≤1000)
 (hb:M.get b=some (.cells ro s [.int .i64 id])):
 Abs.Spec qc 76 [.slice (some ⟨P,off,none⟩) l.length c,.func (.func 77) #[] #[.pointer (some ⟨b,0,none⟩)]] M fun u M'=>u=.int .i64 (Zq (X6 (fun x:Rec=>decide (x.x.head.id=id)) l 0))∧M'=M:=by
 refine K5 Tryz.func76 Tryz.results76 Tryz.ntmps76 fun hc hx k=>?_
 refine J0 (R0 ?_)
 refine J0 (J0 (R0 ?_))
 refine J7 (Jr (fun j f M'=>∃i:Nat,j=l.length-i∧f=[(0,.slice (some ⟨P,off,none⟩) l.length c),(1,.func (.func 77) #[] #[.pointer (some ⟨b,0,none⟩)]),(7,.int .i64 (l.length:Nat)),(8,.int .i64 (i:Nat))]∧i≤l.length∧
  (∀(k:Nat) o,k<i→l[k]?=some o→isRec id o=false)∧M'=M) l.length ?_ ?_)
 ·refine JK [0,1,7,8] ?_
  exact⟨M,tR _,0,rfl,rfl,by omega,fun k o hk=>by omega,rfl⟩
 ·rintro j f M' ⟨i,rfl,rfl,hi,I,E⟩
  replace E:=E.symm;subst E
  refine J0 (R0 ?_)
  refine J0 (CC (decide ((i:Int)<(l.length:Int))) (fun hq=>J3 ?_) (fun hq=>Jn ?_))
  ·have U:=of_decide_eq_true hq
   obtain⟨o,O⟩:∃o,l[i]?=some o:=⟨_,qj (by omega)⟩
   obtain⟨v,hv,Z⟩:=h.at_ i o O
   have z0:(0:Int)≤(i:Int):=by omega
   have Y:cellIn (off+i) (some (.cells false s0 C))=some v:=hvs i v hv
   have w9:IntKind.i64.wrap ((i:Int)+1)=((i+1:Nat):Int):=by rw[Xn (by omega) (by omega)];omega
   simp only[zZ,reduceIte,yQ,yW,yX,yZ,yJ,yK,yV]
   refine J0 (J7 (J0 (R0 ?_)))
   refine J0 (R6 @z0 @U @and_self @hC @qi @Y ?_)
   refine⟨by kernel_rfl,_,isrec_spec o K _ v Z b s ro id hb,?_⟩
   rintro _ M2 ⟨rfl,E⟩;replace E:=E.symm;subst E
   refine S0 ?_
   refine CC (isRec id o) (fun he=>J0 (J1 ?_)) (fun he=>J3 ?_)
   ·refine S0 ?_
    refine T0 ?_
    cases o with
    |none=>cases he
    |some a=>exact⟨_,tR _,by rw[place_rec O he I],rfl⟩
   ·simp only[zZ,reduceIte,yQ,yW,yX,yZ,yJ,yK,yV]
    refine R1 @w9 ?_
    refine JK [0,1,7,8] ?_
    refine⟨_,tR _,l.length-(i+1),⟨i+1,rfl,rfl,by omega,fun k o' hk ho'=>?_,rfl⟩,by omega⟩
    by_cases e:k=i
    ·subst e;rw[O]at ho';cases ho';exact he
    ·exact I k o' (by omega) ho'
  ·have U:=of_decide_eq_false hq
   simp only[zZ,reduceIte,yQ,yW,yX,yZ,yJ,yK,yV]
   refine J0 (R0 ?_)
   refine T0 ?_
   refine⟨_,tR _,?_,rfl⟩
   rw[noplace_rec fun k o O=>I k o (by have:=(qf.1 O).1;omega) O]
theorem place_ext{l:List (Option Ext)}{id:Int}{j:Nat}{a:Ext}(h1:l[j]?=some (some a))(h2:isExt id (some a)=true)(h3:∀(k:Nat) o,k<j→l[k]?=some o→isExt id o=false):Zq (X6 (fun x:Ext=>decide (x.head.id=id)) l 0)=(j:Int):=by
 rw[findAt_is (f:=fun x:Ext=>decide (x.head.id=id)) h1 h2 fun k b hk hb=>h3 k (some b) hk hb];rfl
theorem noplace_ext{l:List (Option Ext)}{id:Int}(h3:∀(k:Nat) o,l[k]?=some o→isExt id o=false):Zq (X6 (fun x:Ext=>decide (x.head.id=id)) l 0)= -1:=by
 rw[findAt_not (f:=fun x:Ext=>decide (x.head.id=id)) fun k b hb=>h3 k (some b) hb];rfl
theorem idxext_spec(P off s0 b s c:Nat)(ro:Bool)(id:Int)(K:List Nat)(M:Mem)(C:List Value)(vs:List Value)(l:List (Option Ext))(hC:M.get P=some (.cells false s0 C))(hvs:∀(i:Nat) v,vs[i]?=some v→C[off+i]?=some v)(h:PtrsAt Ext.cells K M l vs)(hl:l.length≤1000)
 (hb:M.get b=some (.cells ro s [.int .i64 id])):
 Abs.Spec qc 78 [.slice (some ⟨P,off,none⟩) l.length c,.func (.func 79) #[] #[.pointer (some ⟨b,0,none⟩)]] M fun u M'=>u=.int .i64 (Zq (X6 (fun x:Ext=>decide (x.head.id=id)) l 0))∧M'=M:=by
 refine K5 Tryz.func78 Tryz.results78 Tryz.ntmps78 fun hc hx k=>?_
 refine J0 (R0 ?_)
 refine J0 (J0 (R0 ?_))
 refine J7 (Jr (fun j f M'=>∃i:Nat,j=l.length-i∧f=[(0,.slice (some ⟨P,off,none⟩) l.length c),(1,.func (.func 79) #[] #[.pointer (some ⟨b,0,none⟩)]),(7,.int .i64 (l.length:Nat)),(8,.int .i64 (i:Nat))]∧i≤l.length∧
  (∀(k:Nat) o,k<i→l[k]?=some o→isExt id o=false)∧M'=M) l.length ?_ ?_)
 ·refine JK [0,1,7,8] ?_
  exact⟨M,tR _,0,rfl,rfl,by omega,fun k o hk=>by omega,rfl⟩
 ·rintro j f M' ⟨i,rfl,rfl,hi,I,E⟩
  replace E:=E.symm;subst E
  refine J0 (R0 ?_)
  refine J0 (CC (decide ((i:Int)<(l.length:Int))) (fun hq=>J3 ?_) (fun hq=>Jn ?_))
  ·have U:=of_decide_eq_true hq
   obtain⟨o,O⟩:∃o,l[i]?=some o:=⟨_,qj (by omega)⟩
   obtain⟨v,hv,Z⟩:=h.at_ i o O
   have z0:(0:Int)≤(i:Int):=by omega
   have Y:cellIn (off+i) (some (.cells false s0 C))=some v:=hvs i v hv
   have w9:IntKind.i64.wrap ((i:Int)+1)=((i+1:Nat):Int):=by rw[Xn (by omega) (by omega)];omega
   simp only[zZ,reduceIte,yQ,yW,yX,yZ,yJ,yK,yV]
   refine J0 (J7 (J0 (R0 ?_)))
   refine J0 (R6 @z0 @U @and_self @hC @qi @Y ?_)
   refine⟨by kernel_rfl,_,isext_spec o K _ v Z b s ro id hb,?_⟩
   rintro _ M2 ⟨rfl,E⟩;replace E:=E.symm;subst E
   refine S0 ?_
   refine CC (isExt id o) (fun he=>J0 (J1 ?_)) (fun he=>J3 ?_)
   ·refine S0 ?_
    refine T0 ?_
    cases o with
    |none=>cases he
    |some a=>exact⟨_,tR _,by rw[place_ext O he I],rfl⟩
   ·simp only[zZ,reduceIte,yQ,yW,yX,yZ,yJ,yK,yV]
    refine R1 @w9 ?_
    refine JK [0,1,7,8] ?_
    refine⟨_,tR _,l.length-(i+1),⟨i+1,rfl,rfl,by omega,fun k o' hk ho'=>?_,rfl⟩,by omega⟩
    by_cases e:k=i
    ·subst e;rw[O]at ho';cases ho';exact he
    ·exact I k o' (by omega) ho'
  ·have U:=of_decide_eq_false hq
   simp only[zZ,reduceIte,yQ,yW,yX,yZ,yJ,yK,yV]
   refine J0 (R0 ?_)
   refine T0 ?_
   refine⟨_,tR _,?_,rfl⟩
   rw[noplace_ext fun k o O=>I k o (by have:=(qf.1 O).1;omega) O]
def DepOr(M:Mem)(P p q g:Nat)(d:Dsk):Option Dep→Value→Prop
 |none,v=>v=.pointer none
 |some D,v=>v=.pointer (some ⟨P,0,none⟩)∧DepAt M P p q g d D
theorem sl_A4(get:Nat→Option Blk)(P o:Nat):Q1 qc get 70 (.pointer (some ⟨P,o,none⟩)) none none=some (.slice (some ⟨P,o,none⟩) 4 4):=by kernel_rfl
theorem sl_A8(get:Nat→Option Blk)(P o:Nat):Q1 qc get 72 (.pointer (some ⟨P,o,none⟩)) none none=some (.slice (some ⟨P,o,none⟩) 8 8):=by kernel_rfl
theorem find_spec(P p q g:Nat)(d:Dsk)(D:Dep)(id:Int)(M:Mem)(h:DepAt M P p q g d D):
 Abs.Spec qc 37 [.pointer (some ⟨P,0,none⟩),.int .i64 id] M fun u M'=>u=.tuple #[.int .i64 (Zq (D.rec? id)),.int .i64 (Zq (D.ext? id))]∧More M M':=by
 refine K5 Tryz.func37 Tryz.results37 Tryz.ntmps37 fun hc hx k=>?_
 have b1:QO qc 3 (.int .i64 id)=some (.cells false (J6 qc 3) [.int .i64 id]):=by rfl
 generalize J6 qc 3=s1 at b1
 refine J0 (R1 @b1 ?_)
 obtain⟨U,O⟩:∃U,U=M.push (.cells false s1 [.int .i64 id]):=⟨_,rfl⟩
 obtain⟨Z,Y⟩:∃b,b=M.size:=⟨_,rfl⟩
 have g3:U.get Z=some (.cells false s1 [.int .i64 id]):=by rw[O,Y,Mem.get_push_new]
 have mo:More M U:=by rw[O];exact More.push _ _
 rw[←O,←Y]
 have I:=h.same mo.get
 obtain⟨s,vo,vk,E,ho,hk⟩:=I.row
 have l4:vo.length=4:=by rw[ho.len,I.ok.opn]
 have l8:vk.length=8:=by rw[hk.len,I.ok.kept]
 have io:=idxrec_spec P 3 s Z s1 4 false id _ U _ vo D.opn E (fun i v hv=>by
  have:=(qf.1 hv).1
  rw[depC_opn _ _ _ _ l4 _ (by omega)];exact hv) ho (by rw[I.ok.opn];decide) g3
 have ik:=idxext_spec P 7 s Z s1 8 false id _ U _ vk D.kept E (fun i v hv=>by
  have:=(qf.1 hv).1
  rw[depC_kept _ _ _ _ l4 l8 _ (by omega)];exact hv) hk (by rw[I.ok.kept];decide) g3
 rw[I.ok.opn]at io
 rw[I.ok.kept]at ik
 refine J0 (J0 (R0 ?_))
 refine CF (J3 ?_)
 simp only[zZ,reduceIte,yQ,yW,yX,yZ,yJ,yK,yV]
 refine J0 (J1 ?_)
 simp only[zZ,reduceIte,yQ,yW,yX,yZ,yJ,yK,yV,zDk,Jc,Jb,J9,J8,Xx,vFunc,sl_A4]
 refine K0 (io) ?_
 refine J0 (J1 ?_)
 simp only[zZ,reduceIte,yQ,yW,yX,yZ,yJ,yK,yV,zDk,Jc,Jb,J9,J8,Xx,vFunc,sl_A8]
 refine K0 (ik) ?_
 refine J0 (R0 ?_)
 refine T0 ?_
 exact⟨_,tR _,rfl,mo⟩
theorem find_none(id:Int)(M:Mem):
 Abs.Spec qc 37 [.pointer none,.int .i64 id] M fun u M'=>u=.tuple #[.int .i64 (-1),.int .i64 (-1)]∧More M M':=by
 refine K5 Tryz.func37 Tryz.results37 Tryz.ntmps37 fun hc hx k=>?_
 have E:QO qc 3 (.int .i64 id)=some (.cells false (J6 qc 3) [.int .i64 id]):=by rfl
 generalize J6 qc 3=s1 at E
 refine J0 (R1 @E ?_)
 refine J0 (J0 (R0 ?_))
 refine CT (J0 (R0 ?_))
 refine T0 ?_
 exact⟨_,tR _,More.push _ _⟩
theorem find_or(P p q g:Nat)(d:Dsk)(D:Option Dep)(v:Value)(id:Int)(M:Mem)(h:DepOr M P p q g d D v):
 Abs.Spec qc 37 [v,.int .i64 id] M fun u M'=>u=.tuple #[.int .i64 (Zq (D.bind fun D=>D.rec? id)),.int .i64 (Zq (D.bind fun D=>D.ext? id))]∧More M M':=by
 cases D with
 |none=>obtain rfl:v=_:=h;exact find_none id M
 |some D=>obtain⟨rfl,h⟩:=h;exact find_spec P p q g d D id M h
theorem Zh{α:Type}(x:Nat×α):Zq (some x)=(x.1:Int):=rfl
theorem Zi{α:Type}:Zq (none:Option (Nat×α))= -1:=rfl
theorem XL{α:Type}{f:α→Bool}{l:List (Option α)}{j:Nat}{a:α}(h:X6 f l 0=some (j,a)):l[j]?=some (some a)∧f a=true:=by
 rcases ZB f l 0 with⟨E,_⟩|⟨U,Y,e,I,O,_⟩
 ·rw[E]at h;cases h
 ·rw[e,qA]at h
  simp only[Option.some.injEq,Prod.mk.injEq]at h
  obtain⟨rfl,rfl⟩:=h
  exact⟨I,O⟩
theorem DepAt.extAt{M:Mem}{P p q g:Nat}{d:Dsk}{D:Dep}(h:DepAt M P p q g d D){j:Nat}{x:Ext}(hj:D.kept[j]?=some (some x)):
 j<8∧∃b s,cellIn (7+j) (M.get P)=some (.pointer (some ⟨b,0,none⟩))∧b∉ [P,p,q,g]∧M.get b=some (.cells false s x.cells):=by
 obtain⟨s,vo,vk,E,U,O⟩:=h.row
 have Z:vo.length=4:=by rw[U.len,h.ok.opn]
 have Y:vk.length=8:=by rw[O.len,h.ok.kept]
 have I:j<8:=by have:=(qf.1 hj).1;rwa [h.ok.kept]at this
 obtain⟨v,hv,b,s',hb,rfl,hg⟩:=O.at_ j _ hj
 refine⟨I,b,s',?_,hb,hg⟩
 rw[E]
 show(JW p D vo vk)[7+j]?=_
 rw[depC_kept _ _ _ _ Z Y _ I,hv]
theorem DepAt.recAt{M:Mem}{P p q g:Nat}{d:Dsk}{D:Dep}(h:DepAt M P p q g d D){j:Nat}{x:Rec}(hj:D.opn[j]?=some (some x)):
 j<4∧∃b s,cellIn (3+j) (M.get P)=some (.pointer (some ⟨b,0,none⟩))∧b∉ [P,p,q,g]∧M.get b=some (.cells false s x.cells):=by
 obtain⟨s,vo,vk,E,O,hk⟩:=h.row
 have U:vo.length=4:=by rw[O.len,h.ok.opn]
 have I:j<4:=by have:=(qf.1 hj).1;rwa [h.ok.opn]at this
 obtain⟨v,Z,b,Y,hb,rfl,hg⟩:=O.at_ j _ hj
 refine⟨I,b,Y,?_,hb,hg⟩
 rw[E]
 show(JW p D vo vk)[3+j]?=_
 rw[depC_opn _ _ _ _ U _ I,Z]
def headOr(D:Option Dep)(id:Int):Header×Bool×Int:=match D with|none=>(noHead,false,8)|some D=>D.headAt id
theorem head_spec(P p q g:Nat)(d:Dsk)(D:Option Dep)(v:Value)(id:Int)(M:Mem)(h:DepOr M P p q g d D v):
 Abs.Spec qc 29 [v,.int .i64 id] M fun u M'=>u=.tuple #[.agg (headOr D id).1.cells.toArray,.bool (headOr D id).2.1,.int .i64 (headOr D id).2.2]∧More M M':=by
 refine K5 Tryz.func29 Tryz.results29 Tryz.ntmps29 fun hc hx k=>?_
 have ae:Qa qc 34=some (.cells false (J6 qc 34) noHead.cells):=al_Hdr
 generalize J6 qc 34=s1 at ae
 obtain⟨r,hr⟩:∃r,r=headOr D id:=⟨_,rfl⟩
 rw[←hr]
 refine J0 (R1 @ae ?_)
 have a2:Qj qc 34 []=some (.agg noHead.cells.toArray):=by kernel_rfl
 have Y:∀h:Header,Ju 7 0 (some (.cells false s1 h.cells))=some (.agg h.cells.toArray):=fun _=>rfl
 have U:∀h:Header,(Value.agg h.cells.toArray).cells.toList=h.cells:=fun _=>rfl
 have O:∀(M0:Mem)(b:Nat)(x y:Header),Ji 7 M0 b 0 y.cells (some (.cells false s1 x.cells))=some (M0.set b (some (.cells false s1 y.cells))):=fun _ _ _ _=>rfl
 obtain⟨b4,ah⟩:∃b,b=M.size:=⟨_,rfl⟩
 obtain⟨M1,a6⟩:∃M1,M1=M.push (.cells false s1 noHead.cells):=⟨_,rfl⟩
 have g4:M1.get b4=some (.cells false s1 noHead.cells):=by rw[a6,ah,Mem.get_push_new]
 have af:More M M1:=by rw[a6];exact More.push _ _
 rw[←a6,←ah]
 have h1:DepOr M1 P p q g d D v:=by
  cases D with
  |none=>exact h
  |some D=>exact⟨h.1,h.2.same af.get⟩
 have Z:∀(M':Mem)(x y:Header),M'.get b4=some (.cells false s1 y.cells)→More M M'→(M'.set b4 (some (.cells false s1 x.cells))).get b4=some (.cells false s1 x.cells)∧More M (M'.set b4 (some (.cells false s1 x.cells))):=fun M' x y hg hm=>
  ⟨Mem.get_set_same hg _,fun b z hb=>by
   have:=Mem.get_lt hb
   rw[Mem.get_set_ne (by omega)];exact hm.get b z hb,by rw[Mem.size_set];exact hm.size⟩
 refine J0 (J0 (R0 ?_))
 refine⟨by kernel_rfl,_,find_or P p q g d D v id M1 h1,?_⟩
 rintro _ M2 ⟨rfl,ab⟩
 have I:=ab.get _ _ g4
 have mo:=af.trans ab
 refine S0 ?_
 cases hD:D with
 |none=>
  rw[hD]at hr
  have q1:decide ((Zq ((none:Option Dep).bind fun D=>D.ext? id))≥0)=false:=rfl
  have q2:decide ((Zq ((none:Option Dep).bind fun D=>D.rec? id))≥0)=false:=rfl
  refine J7 (J0 (R1 @q1 ?_))
  refine CF (J0 (R1 @q2 ?_))
  refine CF (J3 ?_)
  simp only[zZ,reduceIte,yQ,yW,yX,yZ,yJ,yK,yV]
  obtain⟨gs,ms⟩:=Z M2 noHead noHead I mo
  refine J0 (R4 @a2 @I @U @O ?_)
  refine T3 @Q4 @gs @Y ?_
  exact⟨_,tR _,by rw[hr];rfl,ms⟩
 |some D=>
  subst hD
  obtain⟨rfl,h2⟩:=h1
  have h3:=h2.same ab.get
  have E:r=D.headAt id:=hr
  unfold Dep.headAt at E
  simp only[Option.bind_some]
  cases he:D.ext? id with
  |some y=>
   obtain⟨j,x⟩:=y
   rw[he]at E
   obtain⟨hj,b,s',r1,_,gb⟩:=h3.extAt (XL he).1
   have rb:Ju 7 0 (some (.cells false s' x.cells))=some (.agg x.head.cells.toArray):=rfl
   have q1:decide ((j:Int)≥0)=true:=by simp
   have z0:(0:Int)≤(j:Int):=by omega
   have z8:(j:Int)<((8:Nat):Int):=by omega
   have aa:(j:Int)<8:=by omega
   obtain⟨gs,ms⟩:=Z M2 x.head noHead I mo
   simp only[Zh]
   refine J7 (J0 (R1 @q1 ?_))
   refine CT (J0 (J1 ?_))
   simp only[zZ,reduceIte,yQ,yW,yX,yZ,yJ,yK,yV,zDk,Jc,Jb,J9,J8,Xx,z0,z8,aa,and_self,qi,r1,gb,rb,I,U,O]
   refine T3 @Q4 @gs @Y ?_
   exact⟨_,tR _,by rw[E],ms⟩
  |none=>
   rw[he]at E
   have q1:decide ((-1:Int)≥0)=false:=rfl
   simp only[Zi]
   refine J7 (J0 (R1 @q1 ?_))
   refine CF (J0 (J1 ?_))
   cases hc2:D.rec? id with
   |some y=>
    obtain⟨j,x⟩:=y
    rw[hc2]at E
    obtain⟨hj,b,s',r1,_,gb⟩:=h3.recAt (XL hc2).1
    have rb:Ju 7 0 (some (.cells false s' x.cells))=some (.agg x.x.head.cells.toArray):=rfl
    have q2:decide ((j:Int)≥0)=true:=by simp
    have z0:(0:Int)≤(j:Int):=by omega
    have z8:(j:Int)<((4:Nat):Int):=by omega
    have aa:(j:Int)<4:=by omega
    obtain⟨gs,ms⟩:=Z M2 x.x.head noHead I mo
    refine S2 @Zh @q2 ?_
    refine CT (J0 (J1 ?_))
    simp only[zZ,reduceIte,yQ,yW,yX,yZ,yJ,yK,yV,zDk,Jc,Jb,J9,J8,Xx,z0,z8,aa,and_self,qi,r1,gb,rb,I,U,O]
    refine T3 @Q4 @gs @Y ?_
    exact⟨_,tR _,by rw[E],ms⟩
   |none=>
    rw[hc2]at E
    obtain⟨gs,ms⟩:=Z M2 noHead noHead I mo
    refine S2 @Zi @q1 ?_
    refine CF (J3 ?_)
    simp only[zZ,reduceIte,yQ,yW,yX,yZ,yJ,yK,yV]
    refine J0 (R4 @a2 @I @U @O ?_)
    refine T3 @Q4 @gs @Y ?_
    exact⟨_,tR _,by rw[E],ms⟩
theorem DepOr.same{M M':Mem}{P p q g:Nat}{d:Dsk}{D:Option Dep}{v:Value}(h:DepOr M P p q g d D v)(hs:More M M'):DepOr M' P p q g d D v:=by
 cases D with
 |none=>exact h
 |some D=>exact⟨h.1,h.2.same hs.get⟩
theorem depoch_spec(P p q g:Nat)(d:Dsk)(D:Option Dep)(v:Value)(M:Mem)(h:DepOr M P p q g d D v):
 Abs.Spec qc 49 [v] M fun u M'=>u=.int .i64 ((D.map Dep.epoch).getD 0)∧M'=M:=by
 refine K5 Tryz.func49 Tryz.results49 Tryz.ntmps49 fun hc hx k=>?_
 refine J0 (R0 ?_)
 cases D with
 |none=>
  obtain rfl:v=_:=h
  refine J0 (J0 (R0 ?_))
  refine CT (J0 (R0 ?_))
  refine T0 ?_
  exact⟨_,tR _,rfl,rfl⟩
 |some D=>
  obtain⟨rfl,h⟩:=h
  obtain⟨s,vo,vk,E,O,U⟩:=h.row
  have I:cellIn 2 (some (.cells false s (JW p D vo vk)))=some (.int .i64 D.epoch):=rfl
  refine J0 (J0 (R0 ?_))
  refine CF (J3 ?_)
  simp only[zZ,reduceIte,yQ,yW,yX,yZ,yJ,yK,yV]
  refine J0 (R2 @E @I ?_)
  refine T0 ?_
  exact⟨_,tR _,rfl,rfl⟩
theorem depC_staged(p:Nat)(D:Dep)(vo vk:List Value)(hv:vo.length=4)(hk:vk.length=8):(JW p D vo vk)[15]?=some (.int .i64 D.staged):=by
 unfold JW
 rw[qk (by simp),qk (by simp;omega),qk (by simp;omega)]
 simp[hv,hk]
theorem QM(d:Dsk)(i:Int)(x:List UInt8):(d.write i x).1.old.length=d.old.length:=by
 unfold Dsk.write
 split
 ·rfl
 ·split
  ·rfl
  ·split
   ·rw[Qp]
   ·show(d.burnt.put _ _).old.length=_
    unfold Dsk.put
    rw[Qp]
theorem sync_len(d:Dsk):d.sync.1.old.length=d.old.length:=by
 unfold Dsk.sync
 split
 ·rfl
 ·split
  ·rw[Qp]
  ·show d.burnt.synced.old.length=_
   unfold Dsk.synced
   simp[Qp]
theorem note_spec(P p q g:Nat)(d:Dsk)(D:Dep)(M:Mem)(h:DepAt M P p q g d D)(i:Nat)(hi:i<4)(r:Rec)(hr:r.may=true):
 Abs.Spec qc 35 [.pointer (some ⟨P,0,none⟩),.int .i64 (i:Nat),.agg r.cells.toArray] M fun u M'=>u=.int .i64 (d.write ((1+i:Nat):Int) (JY r)).2∧DepAt M' P p q g (d.write ((1+i:Nat):Int) (JY r)).1 D∧Only [p,q,g] M M'∧M.size≤M'.size:=by
 obtain⟨W,hW⟩:∃W,W=d.write ((1+i:Nat):Int) (JY r):=⟨_,rfl⟩
 rw[←hW]
 have Y:W.1.old.length=d.old.length:=by rw[hW];exact QM _ _ _
 refine K5 Tryz.func35 Tryz.results35 Tryz.ntmps35 fun hc hx k=>?_
 have bx:QO qc 88 (.agg r.cells.toArray)=some (.cells false (J6 qc 88) r.cells):=bx_Rec _ rfl
 generalize J6 qc 88=s1 at bx
 have U:Ju 13 0 (some (.cells false s1 r.cells))=some (.agg r.cells.toArray):=rfl
 obtain⟨O,E⟩:∃O,O=M.push (.cells false s1 r.cells):=⟨_,rfl⟩
 have mo:More M O:=by rw[E];exact More.push _ _
 have ak:O.size=M.size+1:=by rw[E,Mem.size_push]
 have g1:O.get M.size=some (.cells false s1 r.cells):=by rw[E,Mem.get_push_new]
 have aa:Only [p,q,g] M O:=fun b x _ hb=>mo.get b x hb
 have h1:=h.same mo.get
 obtain⟨s,vo,vk,Z,ho,hk⟩:=h1.row
 have c0:cellIn 0 (some (.cells false s (JW p D vo vk)))=some (dp p):=rfl
 have a2:recT r=str (JY r):=if_pos hr
 have w1:IntKind.i64.wrap (1+(i:Int))=((1+i:Nat):Int):=by rw[Xn (by omega) (by omega)];omega
 have jl:(JY r).length≤1000000:=by
  have ab:JE r.x=true:=by unfold Rec.may at hr;rw[Bool.and_eq_true]at hr;exact hr.1
  have hl:=Km (Ki ab).1
  unfold JY
  simp only[qp,hl,Sha.fixed_length,U6]
  decide
 refine J0 (R1 @bx ?_)
 rw[←E]
 refine J0 (R2 @g1 @U ?_)
 refine K0 (jput_at r _) ?_
 refine J0 (R4 @Z @c0 @w1 @a2 ?_)
 refine⟨by kernel_rfl,_,Z8 _ p q g d h1.dsk ((1+i:Nat):Int) (JY r) jl,?_⟩
 rintro _ M2 ⟨rfl,a6,ac,hs2⟩
 rw[←hW]at a6 ⊢
 refine S0 ?_
 refine T0 ?_
 have I:Only [p,q,g] O M2:=ac.mono (by simp)
 exact⟨_,tR _,h1.disk a6 Y I,aa.trans I,by omega⟩
theorem PtrsAt.only{α:Type}{enc:α→List Value}{K l:List Nat}{M M':Mem}{L:List (Option α)}{vs:List Value}(h:PtrsAt enc K M L vs)(hs:Only l M M')(hl:∀b∈l,b∈K):PtrsAt enc K M' L vs:=
 h.same fun b x hb hx=>hs b x (fun hm=>hb (hl b hm)) hx
theorem depC_setK(p:Nat)(D:Dep)(vo vk:List Value)(hv:vo.length=4)(hk:vk.length=8)(i:Nat)(hi:i<8)(w:Value)(x:Option Ext):(JW p D vo vk).set (7+i) w=JW p { D with kept:=D.kept.set i x } vo (vk.set i w):=by
 unfold JW
 rw[qo _ _ (by simp;omega),qo _ _ (by simp;omega),List.set_append_left _ _ (by simp;omega)]
 simp[hv]
 congr 1
 omega
theorem depC_setO(p:Nat)(D:Dep)(vo vk:List Value)(hv:vo.length=4)(i:Nat)(hi:i<4)(w:Value)(x:Option Rec):(JW p D vo vk).set (3+i) w=JW p { D with opn:=D.opn.set i x } (vo.set i w) vk:=by
 unfold JW
 rw[qo _ _ (by simp),List.set_append_left _ _ (by simp;omega)]
 simp
theorem VZ(p:Nat)(D:Dep)(vo vk:List Value)(hv:vo.length=4)(hk:vk.length=8):(JW p D vo vk).length=16:=by
 unfold JW;simp[hv,hk]
def fitX(key:List UInt8)(n:Nat)(x:Ext):Prop:=x.head.verify key=0∧13≤x.base∧x.base+x.head.n≤(n:Int)
theorem Dep.Ok.setK{D:Dep}{n:Nat}(h:D.Ok n)(i:Nat)(o:Option Ext)(ho:∀x,o=some x→fitX D.key n x):Dep.Ok { D with kept:=D.kept.set i o } n:=
 ⟨h.opn,by rw[qv];exact h.kept,h.fitO,fun x hx=>by
  rcases qy hx with hx|hx
  ·exact h.fitK x hx
  ·exact ho x hx.symm⟩
theorem Dep.Ok.setO{D:Dep}{n:Nat}(h:D.Ok n)(i:Nat)(o:Option Rec)(ho:∀r,o=some r→fitX D.key n r.x∧(r.got.length:Int)=r.x.head.n):Dep.Ok { D with opn:=D.opn.set i o } n:=
 ⟨by rw[qv];exact h.opn,h.kept,fun x hx=>by
  rcases qy hx with hx|hx
  ·exact h.fitO x hx
  ·obtain⟨⟨a,b,c⟩,d⟩:=ho x hx.symm;exact⟨a,b,c,d⟩,h.fitK⟩
theorem DepAt.turnK{M:Mem}{P p q g:Nat}{d:Dsk}{D:Dep}(h:DepAt M P p q g d D){s:Nat}{vo vk:List Value}(ho:PtrsAt Rec.cells [P,p,q,g] M D.opn vo)(hk:PtrsAt Ext.cells [P,p,q,g] M D.kept vk)
 (hrow:M.get P=some (.cells false s (JW p D vo vk))) (i:Nat) (hi:i<8) (o:Option Ext) (hox:∀x,o=some x→fitX D.key d.old.length x) (w:Value) (hw:PtrTo Ext.cells [P,p,q,g] M o w):
 DepAt (M.set P (some (.cells false s ((JW p D vo vk).set (7+i) w)))) P p q g d { D with kept:=D.kept.set i o }:=by
 have I:vo.length=4:=by rw[ho.len,h.ok.opn]
 have O:vk.length=8:=by rw[hk.len,h.ok.kept]
 have E:Only [P] M (M.set P (some (.cells false s ((JW p D vo vk).set (7+i) w)))):=Only.set (by simp) _
 refine⟨h.dsk.only E (by simp;exact Ne.symm h.ne.1) (by simp;exact Ne.symm h.ne.2.1) (by simp;exact Ne.symm h.ne.2.2),h.ok.setK i o hox,⟨s,vo,vk.set i w,?_,ho.only E (by simp),(hk.set i o w hw).only E (by simp)⟩,h.ne⟩
 rw[Mem.get_set_same hrow,depC_setK p D vo vk I O i hi w o]
theorem DepAt.turnO{M:Mem}{P p q g:Nat}{d:Dsk}{D:Dep}(h:DepAt M P p q g d D){s:Nat}{vo vk:List Value}(ho:PtrsAt Rec.cells [P,p,q,g] M D.opn vo)(hk:PtrsAt Ext.cells [P,p,q,g] M D.kept vk)
 (hrow:M.get P=some (.cells false s (JW p D vo vk))) (i:Nat) (hi:i<4) (o:Option Rec) (hox:∀r,o=some r→fitX D.key d.old.length r.x∧(r.got.length:Int)=r.x.head.n) (w:Value) (hw:PtrTo Rec.cells [P,p,q,g] M o w):
 DepAt (M.set P (some (.cells false s ((JW p D vo vk).set (3+i) w)))) P p q g d { D with opn:=D.opn.set i o }:=by
 have I:vo.length=4:=by rw[ho.len,h.ok.opn]
 have E:Only [P] M (M.set P (some (.cells false s ((JW p D vo vk).set (3+i) w)))):=Only.set (by simp) _
 refine⟨h.dsk.only E (by simp;exact Ne.symm h.ne.1) (by simp;exact Ne.symm h.ne.2.1) (by simp;exact Ne.symm h.ne.2.2),h.ok.setO i o hox,⟨s,vo.set i w,vk,?_,(ho.set i o w hw).only E (by simp),hk.only E (by simp)⟩,h.ne⟩
 rw[Mem.get_set_same hrow,depC_setO p D vo vk I i hi w o]
theorem keep_rest{d:Dsk}{D:Dep}{i:Nat}{x:Ext}:Dep.keep d D i x=(if(d.write ((5+i:Nat):Int) (Jy x)).2≠0 then((d.write ((5+i:Nat):Int) (Jy x)).1,D,(d.write ((5+i:Nat):Int) (Jy x)).2)else
 if((d.write ((5+i:Nat):Int) (Jy x)).1.sync).2≠0 then(((d.write ((5+i:Nat):Int) (Jy x)).1.sync).1,D,((d.write ((5+i:Nat):Int) (Jy x)).1.sync).2)else
 (((d.write ((5+i:Nat):Int) (Jy x)).1.sync).1,{ D with kept:=D.kept.set i (some x) },0)):=rfl
theorem keep_spec(P p q g:Nat)(d:Dsk)(D:Dep)(M:Mem)(h:DepAt M P p q g d D)(i:Nat)(hi:i<8)(x:Ext)(hm:JE x=true)(hf:fitX D.key d.old.length x):
 Abs.Spec qc 55 [.pointer (some ⟨P,0,none⟩),.int .i64 (i:Nat),.agg x.cells.toArray] M fun u M'=>u=.int .i64 (Dep.keep d D i x).2.2∧DepAt M' P p q g (Dep.keep d D i x).1 (Dep.keep d D i x).2.1∧Only [P,p,q,g] M M'∧M.size≤M'.size:=by
 obtain⟨Z,hZ⟩:∃Z,Z=Dep.keep d D i x:=⟨_,rfl⟩
 rw[←hZ]
 rw[keep_rest]at hZ
 obtain⟨W,hW⟩:∃W,W=d.write ((5+i:Nat):Int) (Jy x):=⟨_,rfl⟩
 rw[←hW]at hZ
 obtain⟨Y,hY⟩:∃Y,Y=W.1.sync:=⟨_,rfl⟩
 rw[←hY]at hZ
 have ab:W.1.old.length=d.old.length:=by rw[hW];exact QM _ _ _
 have a2:Y.1.old.length=W.1.old.length:=by rw[hY];exact sync_len _
 refine K5 Tryz.func55 Tryz.results55 Tryz.ntmps55 fun hc hx k=>?_
 have bx:QO qc 85 (.agg x.cells.toArray)=some (.cells false (J6 qc 85) x.cells):=Kv _ rfl
 generalize J6 qc 85=s1 at bx
 have ah:Ju 8 0 (some (.cells false s1 x.cells))=some (.agg x.cells.toArray):=rfl
 have aT:((0:Int) !=0)=false:=rfl
 obtain⟨M1,aa⟩:∃M1,M1=M.push (.cells false s1 x.cells):=⟨_,rfl⟩
 obtain⟨b5,ak⟩:∃b,b=M.size:=⟨_,rfl⟩
 have mo:More M M1:=by rw[aa];exact More.push _ _
 have aV:M1.size=M.size+1:=by rw[aa,Mem.size_push]
 have g1:M1.get b5=some (.cells false s1 x.cells):=by rw[aa,ak,Mem.get_push_new]
 have ag:Only [P,p,q,g] M M1:=fun b x _ hb=>mo.get b x hb
 have nP:b5∉ [P,p,q,g]:=by
  obtain⟨_,_,_,e,_⟩:=h.row
  have l1:=Mem.get_lt e
  obtain⟨_,e⟩:=h.dsk.row
  have l2:=Mem.get_lt e
  have l3:=Mem.get_lt h.dsk.kv
  have l4:=Mem.get_lt h.dsk.old
  simp only[qK,qE,or_false]
  omega
 have h1:=h.same mo.get
 obtain⟨s,vo,vk,ai,ho,hk⟩:=h1.row
 have c0:∀vo vk,cellIn 0 (some (.cells false s (JW p D vo vk)))=some (dp p):=fun _ _=>rfl
 have an:extT x=str (Jy x):=if_pos hm
 have w1:IntKind.i64.wrap (5+(i:Int))=((5+i:Nat):Int):=by rw[Xn (by omega) (by omega)];omega
 have jl:(Jy x).length≤1000000:=by rw[catText_len hm];decide
 have E:∀{M' M'':Mem},Only [p,q,g] M' M''→Only [P,p,q,g] M' M'':=fun h=>h.mono (by simp)
 refine J0 (R1 @bx ?_)
 rw[←aa,←ak]
 refine J0 (R2 @g1 @ah ?_)
 refine K0 (cput_at x _) ?_
 refine J0 (J0 (R4 @ai @c0 @w1 @an ?_))
 refine⟨by kernel_rfl,_,Z8 _ p q g d h1.dsk ((5+i:Nat):Int) (Jy x) jl,?_⟩
 rintro _ M2 ⟨rfl,au,aB,hs2⟩
 rw[←hW]at au ⊢
 have I:Only [p,q,g] M1 M2:=aB.mono (by simp)
 have h2:=h1.disk au ab I
 refine S0 ?_
 refine J0 (R0 ?_)
 refine CC (W.2 !=0) (fun hq=>J0 (J1 ?_)) (fun hq=>J3 ?_)
 ·rw[if_pos (by simpa using hq)]at hZ
  refine S0 ?_
  refine T0 ?_
  subst hZ
  exact⟨_,tR _,rfl,h2,ag.trans (E I),by omega⟩
 rw[if_neg (by simpa using hq)]at hZ
 obtain⟨s2,aD,aw,ae,aK,aU⟩:=h2.row
 have az:cellIn 0 (some (.cells false s2 (JW p D aD aw)))=some (dp p):=rfl
 simp only[zZ,reduceIte,yQ,yW,yX,yZ,yJ,yK,yV]
 refine J0 (J0 (R2 @ae @az ?_))
 refine⟨by kernel_rfl,_,sync_spec _ p q g W.1 h2.dsk,?_⟩
 rintro _ M3 ⟨rfl,ar,a8,aN⟩
 rw[←hY]at ar ⊢
 have h3:=h2.disk ar a2 a8
 refine S0 ?_
 refine J0 (R0 ?_)
 refine CC (Y.2 !=0) (fun hq=>J0 (J1 ?_)) (fun hq=>J3 ?_)
 ·rw[if_pos (by simpa using hq)]at hZ
  refine S0 ?_
  refine T0 ?_
  subst hZ
  exact⟨_,tR _,rfl,h3,(ag.trans (E I)).trans (E a8),by omega⟩
 rw[if_neg (by simpa using hq)]at hZ
 obtain⟨s3,U,O,a7,ac,ao⟩:=h3.row
 have l4:U.length=4:=by rw[ac.len,h3.ok.opn]
 have l8:O.length=8:=by rw[ao.len,h3.ok.kept]
 have ln:=VZ p D U O l4 l8
 have z0:(0:Int)≤(i:Int):=by omega
 have z8:(i:Int)<((8:Nat):Int):=by omega
 have aC:(i:Int)<8:=by omega
 have aj:Ji 1 M3 P (7+i) [.pointer (some ⟨b5,0,none⟩)] (some (.cells false s3 (JW p D U O)))=some (M3.set P (some (.cells false s3 ((JW p D U O).set (7+i) (.pointer (some ⟨b5,0,none⟩)))))):=by
  simp only[Ji]
  rw[if_pos ⟨rfl,by show 7+i+1≤(JW p D U O).length;omega,rfl⟩]
  rfl
 have ay:M3.get b5=some (.cells false s1 x.cells):=a8 _ _ (by simp at nP ⊢;exact nP.2) (I _ _ (by simp at nP ⊢;exact nP.2) g1)
 have ap:=h3.turnK ac ao a7 i hi (some x) (fun y hy=>by cases hy;rw[a2,ab];exact hf) (.pointer (some ⟨b5,0,none⟩)) ⟨b5,s1,nP,rfl,ay⟩
 have aA:Only [P,p,q,g] M3 (M3.set P (some (.cells false s3 ((JW p D U O).set (7+i) (.pointer (some ⟨b5,0,none⟩)))))):=Only.set (by simp) _
 simp only[zZ,reduceIte,yQ,yW,yX,yZ,yJ,yK,yV]
 refine J0 (R7 @a7 @z0 @z8 @aC @and_self @qi @aj ?_)
 refine J0 (R0 ?_)
 refine T0 ?_
 subst hZ
 exact⟨_,tR _,rfl,ap,((ag.trans (E I)).trans (E a8)).trans aA,by rw[Mem.size_set];omega⟩
theorem depC_setS(p:Nat)(D:Dep)(vo vk:List Value)(hv:vo.length=4)(hk:vk.length=8)(n:Int):(JW p D vo vk).set 15 (.int .i64 n)=JW p { D with staged:=n } vo vk:=by
 unfold JW
 rw[qo _ _ (by simp),qo _ _ (by simp;omega),qo _ _ (by simp;omega)]
 simp[hv,hk]
theorem DepAt.turnS{M:Mem}{P p q g:Nat}{d:Dsk}{D:Dep}(h:DepAt M P p q g d D){s:Nat}{vo vk:List Value}(ho:PtrsAt Rec.cells [P,p,q,g] M D.opn vo)(hk:PtrsAt Ext.cells [P,p,q,g] M D.kept vk)
 (hrow:M.get P=some (.cells false s (JW p D vo vk))) (n:Int):
 DepAt (M.set P (some (.cells false s ((JW p D vo vk).set 15 (.int .i64 n))))) P p q g d { D with staged:=n }:=by
 have I:vo.length=4:=by rw[ho.len,h.ok.opn]
 have O:vk.length=8:=by rw[hk.len,h.ok.kept]
 have E:Only [P] M (M.set P (some (.cells false s ((JW p D vo vk).set 15 (.int .i64 n))))):=Only.set (by simp) _
 refine⟨h.dsk.only E (by simp;exact Ne.symm h.ne.1) (by simp;exact Ne.symm h.ne.2.1) (by simp;exact Ne.symm h.ne.2.2),⟨h.ok.opn,h.ok.kept,h.ok.fitO,h.ok.fitK⟩,⟨s,vo,vk,?_,ho.only E (by simp),hk.only E (by simp)⟩,h.ne⟩
 rw[Mem.get_set_same hrow,depC_setS p D vo vk I O]
def NoPt(M:Mem)(P b:Nat):Prop:=∀i,cellIn i (M.get P)≠some (.pointer (some ⟨b,0,none⟩))
theorem PtrsAt.ne{α:Type}{enc:α→List Value}{K:List Nat}{M:Mem}{l:List (Option α)}{vs:List Value}(h:PtrsAt enc K M l vs){b:Nat}(hb:M.size≤b):Value.pointer (some ⟨b,0,none⟩)∉vs:=by
 intro Y
 obtain⟨i,hi,e⟩:=List.getElem_of_mem Y
 have I:i<l.length:=by rw[←h.len];exact hi
 obtain⟨v,O,E⟩:=h.at_ i _ (qj I)
 rw[qj hi,e]at O
 cases O
 cases ho:l[i]with
 |none=>rw[ho]at E;cases E
 |some a=>
  rw[ho]at E
  obtain⟨b',s,_,U,Z⟩:=E
  cases U
  have:=Mem.get_lt Z
  omega
theorem DepAt.noPt{M:Mem}{P p q g:Nat}{d:Dsk}{D:Dep}(h:DepAt M P p q g d D){b:Nat}(hb:M.size≤b):NoPt M P b:=by
 obtain⟨s,vo,vk,I,O,Z⟩:=h.row
 intro i hi
 rw[I]at hi
 have hi:(JW p D vo vk)[i]?=some (.pointer (some ⟨b,0,none⟩)):=hi
 have E:=qH hi
 unfold JW at E
 obtain⟨_,e⟩:=h.dsk.row
 have lp:=Mem.get_lt e
 have U:=O.ne hb
 have Y:=Z.ne hb
 simp only[List.mem_append,qK,qE,or_false,U,Y,false_or,or_self]at E
 rcases E with(E|E|E)|E
 ·cases E;omega
 ·cases E
 ·cases E
 ·cases E
theorem NoPt.same{M M':Mem}{P b:Nat}(h:NoPt M P b)(hs:M'.get P=M.get P):NoPt M' P b:=by
 intro i;rw[hs];exact h i
theorem DepAt.off{M:Mem}{P p q g:Nat}{d:Dsk}{D:Dep}(h:DepAt M P p q g d D){b:Nat}(hb:b∉ [P,p,q,g])(hn:NoPt M P b)(o:Option Blk):DepAt (M.set b o) P p q g d D:=by
 obtain⟨s,vo,vk,E,Y,hk⟩:=h.row
 have l4:vo.length=4:=by rw[Y.len,h.ok.opn]
 have l8:vk.length=8:=by rw[hk.len,h.ok.kept]
 have on:Only [b] M (M.set b o):=Only.set (by simp) _
 simp only[qK,qE,or_false,not_or]at hb
 refine⟨h.dsk.only on (by simp;exact Ne.symm hb.2.1) (by simp;exact Ne.symm hb.2.2.1) (by simp;exact Ne.symm hb.2.2.2),h.ok,⟨s,vo,vk,on _ _ (by simp;exact Ne.symm hb.1) E,⟨Y.len,fun i oo hi=>?_⟩,⟨hk.len,fun i oo hi=>?_⟩⟩,h.ne⟩
 ·obtain⟨v,O,U⟩:=Y.at_ i oo hi
  refine⟨v,O,?_⟩
  cases oo with
  |none=>exact U
  |some a=>
   obtain⟨b',s',Z,rfl,hg⟩:=U
   have a7:=(qf.1 O).1
   have I:b'≠b:=fun e=>hn (3+i) (by
    rw[E]
    show(JW p D vo vk)[3+i]?=_
    rw[depC_opn _ _ _ _ l4 _ (by omega),O,e])
   exact⟨b',s',Z,rfl,on _ _ (by simp;exact I) hg⟩
 ·obtain⟨v,O,U⟩:=hk.at_ i oo hi
  refine⟨v,O,?_⟩
  cases oo with
  |none=>exact U
  |some a=>
   obtain⟨b',s',Z,rfl,hg⟩:=U
   have a7:=(qf.1 O).1
   have I:b'≠b:=fun e=>hn (7+i) (by
    rw[E]
    show(JW p D vo vk)[7+i]?=_
    rw[depC_kept _ _ _ _ l4 l8 _ (by omega),O,e])
   exact⟨b',s',Z,rfl,on _ _ (by simp;exact I) hg⟩
theorem stage_rest{d:Dsk}{D:Dep}{k:Nat}{r:Rec}{i:Int}{s:List UInt8}{W Y U:Dsk×Int}(hW:W=d.write (r.x.base+i) s)(hY:Y=W.1.sync)(hU:U=Y.1.write ((1+k:Nat):Int) (JY { r with got:=r.got.set i.toNat true })):
 Dep.staged1 d D k r i s=(if W.2≠0 then(W.1,D,W.2)else if Y.2≠0 then(Y.1,{ D with staged:=D.staged+1 },Y.2)else if U.2≠0 then(U.1,{ D with staged:=D.staged+1 },U.2)else
  (U.1,{ D with staged:=D.staged+1,opn:=D.opn.set k (some { r with got:=r.got.set i.toNat true }) },0)):=by
 subst hW hY hU;rfl
theorem Ka(P p q g:Nat)(d:Dsk)(D:Dep)(id i:Int)(t:List UInt8)(ht:t.length≤1000000)(hst: -1000000≤D.staged∧D.staged≤1000000000)(M:Mem)(h:DepAt M P p q g d D):
 Abs.Spec qc 10 [.pointer (some ⟨P,0,none⟩),.int .i64 id,.int .i64 i,.string (str t)] M fun u M'=>u=.int .i64 (Dep.stage d D id i t).2.2∧DepAt M' P p q g (Dep.stage d D id i t).1 (Dep.stage d D id i t).2.1∧Only [P,p,q,g] M M'∧M.size≤M'.size:=by
 obtain⟨Z,I⟩:∃Z,Z=Dep.stage d D id i t:=⟨_,rfl⟩
 rw[←I]
 unfold Dep.stage at I
 refine K5 Tryz.func10 Tryz.results10 Tryz.ntmps10 fun hc hx k=>?_
 have b8:Qa qc 88=some (.cells false (J6 qc 88) noRec.cells):=al_Rec
 generalize J6 qc 88=s1 at b8
 have aq:∀(s:Nat)(x:Rec),Ju 13 0 (some (.cells false s x.cells))=some (.agg x.cells.toArray):=fun _ _=>rfl
 have aD:∀(s:Nat)(x:Rec),Ju 5 8 (some (.cells false s x.cells))=some (Xm x.got):=fun _ _=>rfl
 have k2:∀(s:Nat)(x:Rec),cellIn 2 (some (.cells false s x.cells))=some (.int .i64 x.x.head.n):=fun _ _=>rfl
 have k7:∀(s:Nat)(x:Rec),cellIn 7 (some (.cells false s x.cells))=some (.int .i64 x.x.base):=fun _ _=>rfl
 have aO:∀x:Rec,(Value.agg x.cells.toArray).cells.toList=x.cells:=fun _=>rfl
 have bm:∀l,(Xm l).cells.toList=setCells l:=fun _=>rfl
 have aK:∀(M0:Mem)(b:Nat)(x y:Rec),Ji 13 M0 b 0 y.cells (some (.cells false s1 x.cells))=some (M0.set b (some (.cells false s1 y.cells))):=fun _ _ _ _=>rfl
 have bd:∀(M0:Mem)(b:Nat)(x:Rec)(l:List Bool),Ji 5 M0 b 8 (setCells l) (some (.cells false s1 x.cells))=some (M0.set b (some (.cells false s1 ({ x with got:=l }:Rec).cells))):=fun _ _ _ _=>rfl
 have bx:JC (str t)=t.length:=rfl
 refine J0 (R0 ?_)
 refine J0 (R0 ?_)
 refine⟨by kernel_rfl,_,find_spec P p q g d D id M h,?_⟩
 rintro _ M1 ⟨rfl,mo⟩
 have af:Only [P,p,q,g] M M1:=fun b x _ hb=>mo.get b x hb
 have ar:=mo.size
 have h1:=h.same mo.get
 obtain⟨s,vo,vk,O,ho,hk⟩:=h1.row
 have c0:cellIn 0 (some (.cells false s (JW p D vo vk)))=some (dp p):=rfl
 have ac:∀{M' M'':Mem},Only [p,q,g] M' M''→Only [P,p,q,g] M' M'':=fun h=>h.mono (by simp)
 refine S0 ?_
 refine J0 (J7 (J0 (R2 @O @c0 ?_)))
 refine K0 (dead_spec _ p q g d h1.dsk) ?_
 cases hdd:d.dead with
 |true=>
  rw[if_pos hdd]at I
  refine CT (J0 (R0 ?_))
  refine T0 ?_
  subst I
  exact⟨_,tR _,rfl,h1,af,ar⟩
 |false=>
 rw[if_neg (by rw[hdd];decide)]at I
 refine CF (?_)
 cases hD:D.rec? id with
 |none=>
  rw[hD]at I
  have q1:decide ((-1:Int)<0)=true:=rfl
  simp only[Zi]
  refine J0 (R1 @q1 ?_)
  refine CT (J0 (R0 ?_))
  refine T0 ?_
  subst I
  exact⟨_,tR _,rfl,h1,af,ar⟩
 |some y=>
 obtain⟨j,r⟩:=y
 rw[hD]at I
 simp only at I
 obtain⟨hj,b,s',r1,cv,gb⟩:=h1.recAt (XL hD).1
 obtain⟨fv,bS,bv,bU⟩:=h1.ok.fitO r (qH (XL hD).1)
 have ct:=Vq (r.x.head.check_zero.1 (by
  unfold Header.verify at fv
  split at fv
  ·exact absurd fv (by decide)
  ·rename_i h1
   exact(Vj _).resolve_right h1))
 have cn:=h1.dsk.ok.n
 have q1:decide ((j:Int)<0)=false:=decide_eq_false (by omega)
 have z0:(0:Int)≤(j:Int):=by omega
 have z8:(j:Int)<((4:Nat):Int):=by omega
 have aP:(j:Int)<4:=by omega
 rw[O]at r1
 simp only[Zh]
 refine J0 (R1 @q1 ?_)
 refine CF (J0 (J1 ?_))
 cases p1:decide (i<0)with
 |true=>
  have hi:=of_decide_eq_true p1
  rw[if_pos (.inl hi)]at I
  refine S1 @p1 ?_
  refine CT (J0 (R0 ?_))
  refine T0 ?_
  subst I
  exact⟨_,tR _,rfl,h1,af,ar⟩
 |false=>
 have ci:=of_decide_eq_false p1
 simp only[zZ,reduceIte,yQ,yW,yX,yZ,yJ,yK,yV,zDk,Jc,Jb,J9,J8,Xx,p1,z0,z8,aP,and_self,qi,O,r1,gb,k2]
 refine CC (decide (i≥r.x.head.n)) (fun hq=>J0 (J1 ?_)) (fun hq=>J0 (J1 ?_))
 ·rw[if_pos (.inr (of_decide_eq_true hq))]at I
  refine S0 ?_
  refine T0 ?_
  subst I
  exact⟨_,tR _,rfl,h1,af,ar⟩
 have ce:¬r.x.head.n≤i:=of_decide_eq_false hq
 rw[if_neg (by omega)]at I
 refine S1 @bx ?_
 refine CC (((t.length:Nat):Int) !=224) (fun hq=>J0 (J1 ?_)) (fun hq=>J3 ?_)
 ·have aU:t.length≠224:=by simp at hq;omega
  rw[if_pos aU]at I
  refine S0 ?_
  refine T0 ?_
  subst I
  exact⟨_,tR _,rfl,h1,af,ar⟩
 have aU:¬t.length≠224:=by simp at hq;omega
 rw[if_neg aU]at I
 have zw:IntKind.i64.wrap (r.x.base+i)=r.x.base+i:=Xn (by omega) (by omega)
 have gl:r.got.length≤256:=by omega
 have bc:hasV r.got i=r.got.getD i.toNat false:=by unfold hasV;rw[decide_eq_true (by omega),Bool.true_and]
 have aJ:UA r.got i=r.got.set i.toNat true:=by unfold UA;rw[if_pos (by omega)]
 simp only[zZ,reduceIte,yQ,yW,yX,yZ,yJ,yK,yV]
 refine J0 (J1 ?_)
 simp only[zZ,reduceIte,yQ,yW,yX,yZ,yJ,yK,yV,zDk,Jc,Jb,J9,J8,Xx,z0,z8,aP,and_self,qi,O,r1,gb,aq,b8,Mem.get_push_new,aO,aK]
 obtain⟨E,ak⟩:∃b,b=M1.size:=⟨_,rfl⟩
 obtain⟨M2,ax⟩:∃M2,M2=(M1.push (.cells false s1 noRec.cells)).set M1.size (some (.cells false s1 r.cells)):=⟨_,rfl⟩
 rw[←ax,←ak]
 have aQ:M2.get E=some (.cells false s1 r.cells):=by rw[ax,ak];exact Mem.get_set_same (Mem.get_push_new _ _) _
 have aB:More M1 M2:=⟨fun b x hb=>by
  have:=Mem.get_lt hb
  rw[ax,Mem.get_set_ne (by omega),Mem.get_push_old this];exact hb,by rw[ax,Mem.size_set,Mem.size_push];omega⟩
 have hs2:=aB.size
 have bp:Only [P,p,q,g] M M2:=fun b x hb hx=>aB.get b x (af b x hb hx)
 have h2:=h1.same aB.get
 have a8:=aB.get _ _ O
 have aw:E∉ [P,p,q,g]:=by
  have l1:=Mem.get_lt O
  obtain⟨_,e⟩:=h1.dsk.row
  have l2:=Mem.get_lt e
  have l3:=Mem.get_lt h1.dsk.kv
  have l4:=Mem.get_lt h1.dsk.old
  simp only[qK,qE,or_false]
  omega
 have ap:E∉ [p,q,g]:=fun h=>aw (by simp at h ⊢;exact .inr h)
 have has:=fun m=>has_at r.got gl i m
 rw[bc]at has
 refine J0 (J0 (R2 @aQ @aD ?_))
 refine K0 (has _) ?_
 refine CC (r.got.getD i.toNat false) (fun hq=>J0 (J1 ?_)) (fun hq=>J3 ?_)
 ·rw[if_pos hq]at I
  refine S0 ?_
  refine T0 ?_
  subst I
  exact⟨_,tR _,rfl,h2,bp,by omega⟩
 rw[if_neg (by rw[hq];decide)]at I
 obtain⟨W,hW⟩:∃W,W=d.write (r.x.base+i) t:=⟨_,rfl⟩
 obtain⟨Y,hY⟩:∃Y,Y=W.1.sync:=⟨_,rfl⟩
 obtain⟨U,hU⟩:∃U,U=Y.1.write ((1+j:Nat):Int) (JY { r with got:=r.got.set i.toNat true }):=⟨_,rfl⟩
 rw[stage_rest hW hY hU]at I
 have aI:W.1.old.length=d.old.length:=by rw[hW];exact QM _ _ _
 have aj:Y.1.old.length=W.1.old.length:=by rw[hY];exact sync_len _
 have ws:=Z8 M2 p q g d h2.dsk (r.x.base+i) t ht
 rw[←hW]at ws
 simp only[zZ,reduceIte,yQ,yW,yX,yZ,yJ,yK,yV]
 refine J0 (J0 (D5 10 @a8 @c0 @aQ @k7 @zw ?_))
 refine⟨by kernel_rfl,_,ws,?_⟩
 rintro _ M3 ⟨rfl,bI,bJ,cl⟩
 have ad:Only [p,q,g] M2 M3:=bJ.mono (by simp)
 have h3:=h2.disk bI aI ad
 have bn:=ad _ _ ap aQ
 have o3:=bp.trans (ac ad)
 refine S0 ?_
 refine J0 (R0 ?_)
 refine CC (W.2 !=0) (fun hq=>J0 (J1 ?_)) (fun hq=>J3 ?_)
 ·rw[if_pos (by simpa using hq)]at I
  refine S0 ?_
  refine T0 ?_
  subst I
  exact⟨_,tR _,rfl,h3,o3,by omega⟩
 rw[if_neg (by simpa using hq)]at I
 obtain⟨s3,a6,aa,a7,aH,bf⟩:=h3.row
 have bh:a6.length=4:=by rw[aH.len,h3.ok.opn]
 have b9:aa.length=8:=by rw[bf.len,h3.ok.kept]
 have cd:=VZ p D a6 aa bh b9
 have bR:cellIn 15 (some (.cells false s3 (JW p D a6 aa)))=some (.int .i64 D.staged):=depC_staged p D a6 aa bh b9
 have bE:IntKind.i64.wrap (D.staged+1)=D.staged+1:=Xn (by omega) (by omega)
 have aN:Ji 1 M3 P 15 [.int .i64 (D.staged+1)] (some (.cells false s3 (JW p D a6 aa)))=some (M3.set P (some (.cells false s3 ((JW p D a6 aa).set 15 (.int .i64 (D.staged+1)))))):=by
  simp only[Ji]
  rw[if_pos ⟨rfl,by show 15+1≤(JW p D a6 aa).length;omega,rfl⟩]
  rfl
 have h4:=h3.turnS aH bf a7 (D.staged+1)
 simp only[zZ,reduceIte,yQ,yW,yX,yZ,yJ,yK,yV]
 refine J0 (R4 @a7 @bR @bE @aN ?_)
 obtain⟨M4,ay⟩:∃M4,M4=M3.set P (some (.cells false s3 ((JW p D a6 aa).set 15 (.int .i64 (D.staged+1))))):=⟨_,rfl⟩
 have aY:Only [P,p,q,g] M3 M4:=by rw[ay];exact Only.set (by simp) _
 have ck:M4.size=M3.size:=by rw[ay,Mem.size_set]
 rw[←ay]at h4 ⊢
 have o4:=o3.trans aY
 have bl:=aY _ _ aw bn
 obtain⟨D1,ao⟩:∃D1,D1=({ D with staged:=D.staged+1 }:Dep):=⟨_,rfl⟩
 rw[←ao]at h4
 obtain⟨s4,bP,bL,ab,c7,cg⟩:=h4.row
 have bT:cellIn 0 (some (.cells false s4 (JW p D1 bP bL)))=some (dp p):=rfl
 refine J0 (J0 (R2 @ab @bT ?_))
 refine⟨by kernel_rfl,_,sync_spec _ p q g W.1 h4.dsk,?_⟩
 rintro _ M5 ⟨rfl,bk,av,co⟩
 rw[←hY]at bk ⊢
 have h5:=h4.disk bk aj av
 have an:=av _ _ ap bl
 have o5:=o4.trans (ac av)
 refine S0 ?_
 refine J0 (R0 ?_)
 refine CC (Y.2 !=0) (fun hq=>J0 (J1 ?_)) (fun hq=>J3 ?_)
 ·rw[if_pos (by simpa using hq),←ao]at I
  refine S0 ?_
  refine T0 ?_
  subst I
  exact⟨_,tR _,rfl,h5,o5,by omega⟩
 rw[if_neg (by simpa using hq)]at I
 obtain⟨r',am⟩:∃r',r'=({ r with got:=r.got.set i.toNat true }:Rec):=⟨_,rfl⟩
 rw[←am]at hU I
 have bg:fitX D1.key Y.1.old.length r'.x:=by rw[am,ao,aj,aI];exact⟨fv,bS,bv⟩
 have aG:(r'.got.length:Int)=r'.x.head.n:=by rw[am];show((r.got.set i.toNat true).length:Int)=_;rw[qv];exact bU
 have b5:r'.may=true:=by
  unfold Rec.may
  rw[decide_eq_true aG,Bool.and_true]
  rw[am]
  show JE r.x=true
  have bq:=(r.x.head.check_zero.2 ?_:r.x.head.check=0)
  ·unfold JE Header.may
   rw[decide_eq_true bq,decide_eq_true (by omega:(0:Int)≤r.x.base),decide_eq_true (by omega:r.x.base≤1024-r.x.head.n)]
   rfl
  ·refine r.x.head.check_zero.1 ?_
   unfold Header.verify at fv
   split at fv
   ·exact absurd fv (by decide)
   ·rename_i h1
    exact(Vj _).resolve_right h1
 have b7:=fun m=>with_at r.got gl i m
 rw[aJ]at b7
 have aS:Ji 5 M5 E 8 (setCells (r.got.set i.toNat true)) (some (.cells false s1 r.cells))=some (M5.set E (some (.cells false s1 r'.cells))):=by rw[am];exact bd M5 E r _
 simp only[zZ,reduceIte,yQ,yW,yX,yZ,yJ,yK,yV]
 refine J0 (R2 @an @aD ?_)
 refine K3 @an @bm @aS (b7 _) ?_
 obtain⟨M6,ai⟩:∃M6,M6=M5.set E (some (.cells false s1 r'.cells)):=⟨_,rfl⟩
 rw[←ai]
 have bB:NoPt M1 P E:=h1.noPt (by omega)
 have bO:NoPt M2 P E:=bB.same (by rw[a8,O])
 have aA:=ad _ _ (by simp;exact h.ne) a8
 have bA:NoPt M3 P E:=bO.same (by rw[a8,aA])
 have bK:NoPt M4 P E:=by
  intro n hn
  rw[ay,Mem.get_set_same a7]at hn
  have hn:((JW p D a6 aa).set 15 (.int .i64 (D.staged+1)))[n]?=some (.pointer (some ⟨E,0,none⟩)):=hn
  by_cases e:15=n
  ·subst e
   rw[qw (by omega)]at hn
   cases hn
  ·rw[qx e]at hn
   exact bA n (by rw[a7];exact hn)
 have az:=av _ _ (by simp;exact h.ne) ab
 have bD:NoPt M5 P E:=bK.same (by rw[ab,az])
 have h6:=h5.off aw bD (some (.cells false s1 r'.cells))
 rw[←ai]at h6
 have aE:M6.get E=some (.cells false s1 r'.cells):=by rw[ai];exact Mem.get_set_same an _
 have ak:M.size≤E:=by omega
 have o6:Only [P,p,q,g] M M6:=fun b x hb hx=>by
  have:=Mem.get_lt hx
  rw[ai,Mem.get_set_ne (by omega)]
  exact o5 b x hb hx
 have ch:M6.size=M5.size:=by rw[ai,Mem.size_set]
 have ns:=note_spec P p q g Y.1 D1 M6 h6 j hj r' b5
 rw[←hU]at ns
 refine J0 (J0 (R2 @aE @aq ?_))
 refine⟨by kernel_rfl,_,ns,?_⟩
 rintro _ M7 ⟨rfl,h7,aZ,cr⟩
 have bj:=aZ _ _ ap aE
 have o7:=o6.trans (ac aZ)
 have aR:U.1.old.length=Y.1.old.length:=by rw[hU];exact QM _ _ _
 refine S0 ?_
 refine J0 (R0 ?_)
 refine CC (U.2 !=0) (fun hq=>J0 (J1 ?_)) (fun hq=>J3 ?_)
 ·rw[if_pos (by simpa using hq),←ao]at I
  refine S0 ?_
  refine T0 ?_
  subst I
  exact⟨_,tR _,rfl,h7,o7,by omega⟩
 rw[if_neg (by simpa using hq)]at I
 obtain⟨s7,ag,ae,al,aF,bo⟩:=h7.row
 have bz:ag.length=4:=by rw[aF.len,h7.ok.opn]
 have bV:ae.length=8:=by rw[bo.len,h7.ok.kept]
 have cj:=VZ p D1 ag ae bz bV
 have bi:Ji 1 M7 P (3+j) [.pointer (some ⟨E,0,none⟩)] (some (.cells false s7 (JW p D1 ag ae)))=some (M7.set P (some (.cells false s7 ((JW p D1 ag ae).set (3+j) (.pointer (some ⟨E,0,none⟩)))))):=by
  simp only[Ji]
  rw[if_pos ⟨rfl,by show 3+j+1≤(JW p D1 ag ae).length;omega,rfl⟩]
  rfl
 have br:=h7.turnO aF bo al j hj (some r') (fun y hy=>by cases hy;exact⟨by rw[aR];exact bg,aG⟩) (.pointer (some ⟨E,0,none⟩)) ⟨E,s1,aw,rfl,bj⟩
 have bF:Only [P,p,q,g] M7 (M7.set P (some (.cells false s7 ((JW p D1 ag ae).set (3+j) (.pointer (some ⟨E,0,none⟩)))))):=Only.set (by simp) _
 simp only[zZ,reduceIte,yQ,yW,yX,yZ,yJ,yK,yV]
 refine J0 (R7 @al @z0 @z8 @aP @and_self @qi @bi ?_)
 refine J0 (R0 ?_)
 refine T0 ?_
 subst I
 subst ao
 exact⟨_,tR _,rfl,br,o7.trans bF,by rw[Mem.size_set];omega⟩
theorem Ko{α:Type}:∀(l:List (Option α))(i:Nat),(X4 l i=none∧∀(j:Nat),l[j]?≠some none)∨∃(j:Nat),X4 l i=some (i+j)∧l[j]?=some none∧∀(k:Nat),k<j→l[k]?≠some none
 | [],i=>.inl ⟨rfl,fun j h=>by simp at h⟩
 |none::r,i=>.inr ⟨0,rfl,rfl,fun k hk=>by omega⟩
 |some a::r,i=>by
  unfold X4
  rcases Ko r (i+1)with⟨h1,h2⟩|⟨j,h1,h2,h4⟩
  ·refine .inl ⟨h1,fun j hj=>?_⟩
   cases j with
   |zero=>simp at hj
   |succ j=>exact h2 j (by simpa using hj)
  ·refine .inr ⟨j+1,by rw[h1];congr 1;omega,by simpa using h2,fun k hk hc=>?_⟩
   cases k with
   |zero=>simp at hc
   |succ k=>exact h4 k (by omega) (by simpa using hc)
theorem freeAt_is{α:Type}{l:List (Option α)}{j:Nat}(h1:l[j]?=some none)(h3:∀(k:Nat),k<j→l[k]?≠some none):X4 l 0=some j:=by
 rcases Ko l 0 with⟨_,h⟩|⟨E,e,O,I⟩
 ·exact absurd h1 (h j)
 ·rcases Nat.lt_trichotomy j E with hl|hl|hl
  ·exact absurd h1 (I j hl)
  ·subst hl;rw[e,qA]
  ·exact absurd O (h3 E hl)
theorem freeAt_not{α:Type}{l:List (Option α)}(h3:∀(k:Nat),l[k]?≠some none):X4 l 0=none:=by
 rcases Ko l 0 with⟨h,_⟩|⟨I,e,E,_⟩
 ·exact h
 ·exact absurd E (h3 I)
theorem free_rec{l:List (Option Rec)}{j:Nat}(h1:l[j]?=some none)(h3:∀(k:Nat) o,k<j→l[k]?=some o→o.isNone=false):freeI (X4 l 0)=(j:Int):=by
 rw[freeAt_is h1 fun k hk hb=>by have:=h3 k none hk hb;cases this];rfl
theorem nofree_rec{l:List (Option Rec)}(h3:∀(k:Nat) o,l[k]?=some o→o.isNone=false):freeI (X4 l 0)= -1:=by
 rw[freeAt_not fun k hb=>by have:=h3 k none hb;cases this];rfl
theorem freerec_spec(P off s0 c:Nat)(K:List Nat)(M:Mem)(C:List Value)(vs:List Value)(l:List (Option Rec))(hC:M.get P=some (.cells false s0 C))(hvs:∀(i:Nat) v,vs[i]?=some v→C[off+i]?=some v)(h:PtrsAt Rec.cells K M l vs)(hl:l.length≤1000):
 Abs.Spec qc 30 [.slice (some ⟨P,off,none⟩) l.length c,.pointer none] M fun u M'=>u=.int .i64 (freeI (X4 l 0))∧M'=M:=by
 refine K5 Tryz.func30 Tryz.results30 Tryz.ntmps30 fun hc hx k=>?_
 have f0:aBin qc .eql 69 false (.pointer none) (.pointer none)=some (.bool true):=by kernel_rfl
 have f1:∀b,aBin qc .eql 69 false (.pointer none) (.pointer (some ⟨b,0,none⟩))=some (.bool false):=fun b=>by kernel_rfl
 refine J0 (R0 ?_)
 refine J0 (J0 (R0 ?_))
 refine J7 (Jr (fun j f M'=>∃i:Nat,j=l.length-i∧f=[(0,.slice (some ⟨P,off,none⟩) l.length c),(1,.pointer none),(7,.int .i64 (l.length:Nat)),(8,.int .i64 (i:Nat))]∧i≤l.length∧
  (∀(k:Nat) o,k<i→l[k]?=some o→o.isNone=false)∧M'=M) l.length ?_ ?_)
 ·refine JK [0,1,7,8] ?_
  exact⟨M,tR _,0,rfl,rfl,by omega,fun k o hk=>by omega,rfl⟩
 ·rintro j f M' ⟨i,rfl,rfl,hi,E,U⟩
  replace U:=U.symm;subst U
  refine J0 (R0 ?_)
  refine J0 (CC (decide ((i:Int)<(l.length:Int))) (fun hq=>J3 ?_) (fun hq=>Jn ?_))
  ·have I:=of_decide_eq_true hq
   obtain⟨o,O⟩:∃o,l[i]?=some o:=⟨_,qj (by omega)⟩
   obtain⟨v,hv,Z⟩:=h.at_ i o O
   have z0:(0:Int)≤(i:Int):=by omega
   have Y:cellIn (off+i) (some (.cells false s0 C))=some v:=hvs i v hv
   have w9:IntKind.i64.wrap ((i:Int)+1)=((i+1:Nat):Int):=by rw[Xn (by omega) (by omega)];omega
   simp only[zZ,reduceIte,yQ,yW,yX,yZ,yJ,yK,yV]
   refine J0 (J7 (J0 (R0 ?_)))
   refine J0 (J1 ?_)
   cases o with
   |none=>
    obtain rfl:v=.pointer none:=Z
    refine S8 @z0 @I @and_self @hC @qi @Y @f0 @f1 ?_
    refine CT (J0 (R0 ?_))
    refine T0 ?_
    exact⟨_,tR _,by rw[free_rec O E],rfl⟩
   |some a=>
    obtain⟨b',s',_,rfl,_⟩:=Z
    refine S8 @z0 @I @and_self @hC @qi @Y @f0 @f1 ?_
    refine CF (J3 ?_)
    simp only[zZ,reduceIte,yQ,yW,yX,yZ,yJ,yK,yV]
    refine R1 @w9 ?_
    refine JK [0,1,7,8] ?_
    refine⟨_,tR _,l.length-(i+1),⟨i+1,rfl,rfl,by omega,fun k o' hk ho'=>?_,rfl⟩,by omega⟩
    by_cases e:k=i
    ·subst e;rw[O]at ho';cases ho';rfl
    ·exact E k o' (by omega) ho'
  ·have I:=of_decide_eq_false hq
   simp only[zZ,reduceIte,yQ,yW,yX,yZ,yJ,yK,yV]
   refine J0 (R0 ?_)
   refine T0 ?_
   refine⟨_,tR _,?_,rfl⟩
   rw[nofree_rec fun k o O=>E k o (by have:=(qf.1 O).1;omega) O]
theorem free_ext{l:List (Option Ext)}{j:Nat}(h1:l[j]?=some none)(h3:∀(k:Nat) o,k<j→l[k]?=some o→o.isNone=false):freeI (X4 l 0)=(j:Int):=by
 rw[freeAt_is h1 fun k hk hb=>by have:=h3 k none hk hb;cases this];rfl
theorem nofree_ext{l:List (Option Ext)}(h3:∀(k:Nat) o,l[k]?=some o→o.isNone=false):freeI (X4 l 0)= -1:=by
 rw[freeAt_not fun k hb=>by have:=h3 k none hb;cases this];rfl
theorem freeext_spec(P off s0 c:Nat)(K:List Nat)(M:Mem)(C:List Value)(vs:List Value)(l:List (Option Ext))(hC:M.get P=some (.cells false s0 C))(hvs:∀(i:Nat) v,vs[i]?=some v→C[off+i]?=some v)(h:PtrsAt Ext.cells K M l vs)(hl:l.length≤1000):
 Abs.Spec qc 54 [.slice (some ⟨P,off,none⟩) l.length c,.pointer none] M fun u M'=>u=.int .i64 (freeI (X4 l 0))∧M'=M:=by
 refine K5 Tryz.func54 Tryz.results54 Tryz.ntmps54 fun hc hx k=>?_
 have f0:aBin qc .eql 71 false (.pointer none) (.pointer none)=some (.bool true):=by kernel_rfl
 have f1:∀b,aBin qc .eql 71 false (.pointer none) (.pointer (some ⟨b,0,none⟩))=some (.bool false):=fun b=>by kernel_rfl
 refine J0 (R0 ?_)
 refine J0 (J0 (R0 ?_))
 refine J7 (Jr (fun j f M'=>∃i:Nat,j=l.length-i∧f=[(0,.slice (some ⟨P,off,none⟩) l.length c),(1,.pointer none),(7,.int .i64 (l.length:Nat)),(8,.int .i64 (i:Nat))]∧i≤l.length∧
  (∀(k:Nat) o,k<i→l[k]?=some o→o.isNone=false)∧M'=M) l.length ?_ ?_)
 ·refine JK [0,1,7,8] ?_
  exact⟨M,tR _,0,rfl,rfl,by omega,fun k o hk=>by omega,rfl⟩
 ·rintro j f M' ⟨i,rfl,rfl,hi,E,U⟩
  replace U:=U.symm;subst U
  refine J0 (R0 ?_)
  refine J0 (CC (decide ((i:Int)<(l.length:Int))) (fun hq=>J3 ?_) (fun hq=>Jn ?_))
  ·have I:=of_decide_eq_true hq
   obtain⟨o,O⟩:∃o,l[i]?=some o:=⟨_,qj (by omega)⟩
   obtain⟨v,hv,Z⟩:=h.at_ i o O
   have z0:(0:Int)≤(i:Int):=by omega
   have Y:cellIn (off+i) (some (.cells false s0 C))=some v:=hvs i v hv
   have w9:IntKind.i64.wrap ((i:Int)+1)=((i+1:Nat):Int):=by rw[Xn (by omega) (by omega)];omega
   simp only[zZ,reduceIte,yQ,yW,yX,yZ,yJ,yK,yV]
   refine J0 (J7 (J0 (R0 ?_)))
   refine J0 (J1 ?_)
   cases o with
   |none=>
    obtain rfl:v=.pointer none:=Z
    refine S8 @z0 @I @and_self @hC @qi @Y @f0 @f1 ?_
    refine CT (J0 (R0 ?_))
    refine T0 ?_
    exact⟨_,tR _,by rw[free_ext O E],rfl⟩
   |some a=>
    obtain⟨b',s',_,rfl,_⟩:=Z
    refine S8 @z0 @I @and_self @hC @qi @Y @f0 @f1 ?_
    refine CF (J3 ?_)
    simp only[zZ,reduceIte,yQ,yW,yX,yZ,yJ,yK,yV]
    refine R1 @w9 ?_
    refine JK [0,1,7,8] ?_
    refine⟨_,tR _,l.length-(i+1),⟨i+1,rfl,rfl,by omega,fun k o' hk ho'=>?_,rfl⟩,by omega⟩
    by_cases e:k=i
    ·subst e;rw[O]at ho';cases ho';rfl
    ·exact E k o' (by omega) ho'
  ·have I:=of_decide_eq_false hq
   simp only[zZ,reduceIte,yQ,yW,yX,yZ,yJ,yK,yV]
   refine J0 (R0 ?_)
   refine T0 ?_
   refine⟨_,tR _,?_,rfl⟩
   rw[nofree_ext fun k o O=>E k o (by have:=(qf.1 O).1;omega) O]
section
variable {P : Program} {t tx e : TypeId} {i : TypeInfo} {z : Value} {N : Nat}
theorem gapp(hu:P.underlying t=some (.slice e))(hi:P.info? e=some i)(hz:i.zero=some z)(hs:i.size=N)(hzc:z.cells.toList.length=N)(m:Mem){x:Value}{k n g:Nat}{cs news:List Value}
 (hsrc:aSrc P m tx N x=some (k,news)) (hk:k≠0) (hg:m.get g=some (.cells false N cs)) (hn:cs.length=n*N) (hb:(n+k)*i.bytes≤140737488355328) (hb2:n+k≤140737488355328):
 JT P m t tx (.slice (some ⟨g,0,none⟩) n n) x=some (.slice (some ⟨m.size,0,none⟩) (n+k) (n+k),(m.set g none).push (.cells false N (cs++news))):=by
 unfold JT
 simp only[hu,hi,hz,hs,hzc,if_true,hsrc,if_neg hk,hg]
 rw[if_neg (by omega),if_pos ⟨by omega,trivial,hb,hb2⟩,List.drop_zero,←hn,List.take_length]
theorem gapp_nil(hu:P.underlying t=some (.slice e))(hi:P.info? e=some i)(hz:i.zero=some z)(hs:i.size=N)(hzc:z.cells.toList.length=N)(m:Mem){x:Value}{k:Nat}{news:List Value}
 (hsrc:aSrc P m tx N x=some (k,news)) (hk:k≠0) (hb:k*i.bytes≤140737488355328) (hb2:k≤140737488355328):
 JT P m t tx (.slice none 0 0) x=some (.slice (some ⟨m.size,0,none⟩) k k,m.push (.cells false N news)):=by
 unfold JT
 simp only[hu,hi,hz,hs,hzc,if_true,hsrc,if_neg hk]
 rw[if_pos ⟨hb,hb2⟩]
end
def QK:Value→Option Nat
 |.slice (some a) _ _=>some a.block
 |_=>none
section
variable {α : Type} (enc : α → List Value) (N : Nat)
def OwnL(k:Nat)(M:Mem)(V:Value)(L:List α):Prop:=(L=[]∧V=.slice none 0 0)∨(L≠ []∧∃g,k≤g∧V=.slice (some ⟨g,0,none⟩) L.length L.length∧M.get g=some (.cells false N (L.flatMap enc)))
variable {enc N}
theorem OwnL.nil(k:Nat)(M:Mem):OwnL enc N k M (.slice none 0 0) []:=.inl ⟨rfl,rfl⟩
theorem OwnL.len{k:Nat}{M:Mem}{V:Value}{L:List α}(h:OwnL enc N k M V L):∃a c,V=.slice a L.length c:=by
 rcases h with⟨rfl,rfl⟩|⟨_,g,_,rfl,_⟩
 ·exact⟨none,0,rfl⟩
 ·exact⟨_,_,rfl⟩
theorem OwnL.same{k:Nat}{M M':Mem}{V:Value}{L:List α}(h:OwnL enc N k M V L)(hs:∀b x,QK V=some b→M.get b=some x→M'.get b=some x):OwnL enc N k M' V L:=by
 rcases h with h|⟨E,g,O,rfl,I⟩
 ·exact .inl h
 ·exact .inr ⟨E,g,O,rfl,hs g _ rfl I⟩
theorem OwnL.live{k:Nat}{M:Mem}{V:Value}{L:List α}(h:OwnL enc N k M V L){b:Nat}(hb:QK V=some b):k≤b∧b<M.size:=by
 rcases h with⟨_,rfl⟩|⟨O,g,I,rfl,E⟩
 ·cases hb
 ·cases hb;exact⟨I,Mem.get_lt E⟩
theorem OwnL.at{k:Nat}{M:Mem}{a:Option Addr}{n c:Nat}{L:List α}(h:OwnL enc N k M (.slice a n c) L){i:Nat}{x:α}(hx:L[i]?=some x):∃g,a=some ⟨g,0,none⟩∧k≤g∧M.get g=some (.cells false N (L.flatMap enc)):=by
 rcases h with⟨E,_⟩|⟨E,g,h2,I,O⟩
 ·rw[E]at hx;cases hx
 ·cases I;exact⟨g,rfl,h2,O⟩
theorem OwnL.le{k k':Nat}{M:Mem}{V:Value}{L:List α}(h:OwnL enc N k M V L)(hk:k'≤k):OwnL enc N k' M V L:=by
 rcases h with h|⟨E,g,I,h2⟩
 ·exact .inl h
 ·exact .inr ⟨E,g,by omega,h2⟩
theorem flat_length(henc:∀a,(enc a).length=N)(L:List α):(L.flatMap enc).length=L.length*N:=by
 induction L with
 |nil=>simp
 |cons a L ih=>rw[List.flatMap_cons,qp,henc,ih,List.length_cons,Nat.succ_mul];omega
variable {P : Program} {t tx e d : TypeId} {i : TypeInfo} {z : Value}
theorem oapp(hu:P.underlying t=some (.slice e))(hi:P.info? e=some i)(hz:i.zero=some z)(hs:i.size=N)(hzc:z.cells.toList.length=N)(hx:P.underlying tx=some (.slice d))(henc:∀a,(enc a).length=N)(hby:i.bytes≤1000)
 {k:Nat} {M:Mem} {V:Value} {L:List α} (h:OwnL enc N k M V L) (hk:k≤M.size) (hl:L.length≤1000000) (x:α) (sn:Nat):
 ∃M' V',JT P (M.push (.cells false sn (enc x))) t tx V (.slice (some ⟨M.size,0,none⟩) 1 1)=some (V',M')∧QK V'=some (M.size+1)∧OwnL enc N k M' V' (L++[x])∧
  M'.size=M.size+2∧(∀b y,QK V≠some b→M.get b=some y→M'.get b=some y):=by
 have E:=src_block (P:=P) (m:=M.push (.cells false sn (enc x))) (c:=1) (k:=1) (N:=N) (news:=enc x) (ro:=false) (s:=sn) hx (Mem.get_push_new M _) (by rw[henc];omega)
 rcases h with⟨rfl,rfl⟩|⟨Z,g,Y,rfl,U⟩
 ·have I:=gapp_nil (P:=P) (N:=N) (k:=1) (news:=enc x) hu hi hz hs hzc (M.push (.cells false sn (enc x))) E (by decide) (by omega) (by decide)
  rw[Mem.size_push]at I
  refine⟨_,_,I,rfl,.inr ⟨by simp,M.size+1,by omega,rfl,?_⟩,by simp only[Mem.size_push],fun b y _ hy=>?_⟩
  ·have:=Mem.get_push_new (M.push (.cells false sn (enc x))) (.cells false N (enc x))
   rw[Mem.size_push]at this
   rw[this]
   simp
  ·have:=Mem.get_lt hy
   rw[Mem.get_push_old (by rw[Mem.size_push];omega),Mem.get_push_old this];exact hy
 ·have O:=Mem.get_lt U
  have I:=gapp (P:=P) (N:=N) (k:=1) (n:=L.length) (cs:=L.flatMap enc) (news:=enc x) hu hi hz hs hzc (M.push (.cells false sn (enc x))) E (by decide)
   (by rw[Mem.get_push_old O];exact U) (flat_length henc L) (by have:=Nat.mul_le_mul (show L.length+1≤1000001 by omega) hby;omega) (by omega)
  rw[Mem.size_push]at I
  refine⟨_,_,I,rfl,.inr ⟨by simp,M.size+1,by omega,by simp,?_⟩,by simp only[Mem.size_push,Mem.size_set],fun b y hb hy=>?_⟩
  ·have:=Mem.get_push_new ((M.push (.cells false sn (enc x))).set g none) (.cells false N (L.flatMap enc++enc x))
   rw[Mem.size_set,Mem.size_push]at this
   rw[this,List.flatMap_append];simp
  ·have:=Mem.get_lt hy
   rw[Mem.get_push_old (by rw[Mem.size_set,Mem.size_push];omega),Mem.get_set_ne (by intro e;apply hb;rw[e];rfl),Mem.get_push_old this];exact hy
end
theorem Z2{α:Type}(f:α→Value)(L:List α):(L.flatMap fun a=>[f a])=L.map f:=by
 induction L with
 |nil=>rfl
 |cons a L ih=>rw[List.flatMap_cons,ih];rfl
theorem cell_one{α:Type}{f:α→Value}{L:List α}{i:Nat}{x:α}(hx:L[i]?=some x)(ro:Bool)(s:Nat):cellIn i (some (.cells ro s (L.flatMap fun a=>[f a])))=some (f x):=by
 rw[Z2]
 simp only[cellIn,List.getElem?_map,hx,Option.map_some]
theorem Ext_zero:Tryz.t85.zero=some (.agg noExt.cells.toArray):=by kernel_rfl
theorem Ext_bytes:Tryz.t85.bytes≤1000:=by decide
theorem new_ext1(x:Ext):JF qc 82 1 [(0,.agg x.cells.toArray)]=some (.cells false 8 x.cells):=by kernel_rfl
abbrev Vy(k:Nat)(M:Mem)(V:Value)(L:List Ext):Prop:=OwnL Ext.cells 8 k M V L
theorem list8{α:Type}{l:List α}(h:l.length=8):∃a b c d e f g i,l=[a,b,c,d,e,f,g,i]:=by
 match l,h with
 | [a,b,c,d,e,f,g,i],_=>exact⟨a,b,c,d,e,f,g,i,rfl⟩
theorem list4{α:Type}{l:List α}(h:l.length=4):∃a b c d,l=[a,b,c,d]:=by
 match l,h with
 | [a,b,c,d],_=>exact⟨a,b,c,d,rfl⟩
theorem ix_A8{vk:List Value}(h:vk.length=8){i:Nat}{v:Value}(hv:vk[i]?=some v):KA qc 72 (.agg vk.toArray) (.int .i64 (i:Nat))=some v:=by
 have hi:i<8:=by have:=(qf.1 hv).1;omega
 obtain⟨a,b,c,d,e,f,g,j,rfl⟩:=list8 h
 rcases(by omega:i=0∨i=1∨i=2∨i=3∨i=4∨i=5∨i=6∨i=7)with rfl|rfl|rfl|rfl|rfl|rfl|rfl|rfl<;>(simp at hv;subst hv;show _=some _;kernel_rfl)
theorem ix_A4{vk:List Value}(h:vk.length=4){i:Nat}{v:Value}(hv:vk[i]?=some v):KA qc 70 (.agg vk.toArray) (.int .i64 (i:Nat))=some v:=by
 have hi:i<4:=by have:=(qf.1 hv).1;omega
 obtain⟨a,b,c,d,rfl⟩:=list4 h
 rcases(by omega:i=0∨i=1∨i=2∨i=3)with rfl|rfl|rfl|rfl<;>(simp at hv;subst hv;show _=some _;kernel_rfl)
theorem row_kept(s p:Nat)(D:Dep){vo vk:List Value}(h4:vo.length=4)(h8:vk.length=8):Ju 8 7 (some (.cells false s (JW p D vo vk)))=some (.agg vk.toArray):=by
 obtain⟨a,b,c,d,e,f,g,j,rfl⟩:=list8 h8
 obtain⟨I,b',E,d',rfl⟩:=list4 h4
 rfl
theorem row_opn(s p:Nat)(D:Dep){vo vk:List Value}(h4:vo.length=4)(h8:vk.length=8):Ju 4 3 (some (.cells false s (JW p D vo vk)))=some (.agg vo.toArray):=by
 obtain⟨a,b,c,d,e,f,g,j,rfl⟩:=list8 h8
 obtain⟨I,b',E,d',rfl⟩:=list4 h4
 rfl
theorem filtm_step{α:Type}{l:List (Option α)}{i:Nat}{o:Option α}(h:l[i]?=some o):(l.take (i+1)).filterMap id=(l.take i).filterMap id++o.toList:=by
 rw[List.take_add_one,h,Option.toList_some,List.filterMap_append]
 cases o<;>rfl
theorem filtm_len{α:Type}(l:List (Option α))(i:Nat):((l.take i).filterMap id).length≤l.length:=by
 have:=qB id (l.take i)
 rw[qF]at this
 omega
theorem verify_check{key:List UInt8}{h:Header}(hv:h.verify key=0):h.check=0:=by
 unfold Header.verify at hv
 split at hv
 ·exact absurd hv (by decide)
 ·rename_i h1
  exact(Vj h).resolve_right h1
theorem fit_may{key:List UInt8}{n:Nat}{x:Ext}(h:fitX key n x)(hn:n≤1024):JE x=true:=by
 obtain⟨E,h2,I⟩:=h
 unfold JE Header.may
 rw[decide_eq_true (verify_check E),decide_eq_true (by omega:(0:Int)≤x.base),decide_eq_true (by omega:x.base≤1024-x.head.n)]
 rfl
theorem Dep.Ok.fit{D:Dep}{n:Nat}(h:D.Ok n):∀x∈D.places,fitX D.key n x:=by
 intro x hx
 unfold Dep.places Qs at hx
 rw[List.mem_append]at hx
 rcases hx with hx|hx
 ·rw[List.mem_filterMap]at hx
  obtain⟨o,E,e⟩:=hx
  have e:o=some x:=e
  subst e
  exact h.fitK x E
 ·rw[List.mem_map]at hx
  obtain⟨r,I,rfl⟩:=hx
  rw[List.mem_filterMap]at I
  obtain⟨o,E,e⟩:=I
  have e:o=some r:=e
  subst e
  obtain⟨a,b,c,_⟩:=h.fitO r E
  exact⟨a,b,c⟩
theorem ext_row{L:List Ext}{i:Nat}{x:Ext}(hx:L[i]?=some x)(s:Nat):Ju 8 (i*8) (some (.cells false s (L.flatMap Ext.cells)))=some (.agg x.cells.toArray):=
 rowIn_at (n:=8) (fun a _=>ext_len a) hx false s
theorem other_spec(x y:Ext)(hx:JE x=true)(hy:JE y=true)(b s:Nat)(M:Mem)(hb:M.get b=some (.cells false s x.cells)):
 Abs.Spec qc 89 [.agg y.cells.toArray,.pointer (some ⟨b,0,none⟩)] M fun u M'=>u=.bool (VR x y)∧More M M':=by
 refine Abs.Spec.walkM Tryz.func89 (by rfl) _ Tryz.results89 _ Tryz.ntmps89 (by simp) ?_
 intro hc a7 k
 have bx:QO qc 85 (.agg y.cells.toArray)=some (.cells false (J6 qc 85) y.cells):=Kv _ rfl
 generalize J6 qc 85=s1 at bx
 have row:∀(s:Nat)(x:Ext),Ju 8 0 (some (.cells false s x.cells))=some (.agg x.cells.toArray):=fun _ _=>rfl
 have Y:∀(s:Nat)(x:Ext),cellIn 0 (some (.cells false s x.cells))=some (.int .i64 x.head.id):=fun _ _=>rfl
 obtain⟨I,E⟩:∃I,I=M.push (.cells false s1 y.cells):=⟨_,rfl⟩
 have O:More M I:=by rw[E];exact More.push _ _
 have Z:I.get M.size=some (.cells false s1 y.cells):=by rw[E,Mem.get_push_new]
 have gx:=O.get _ _ hb
 refine J0 (R1 @bx ?_)
 rw[←E]
 refine J0 (J1 ?_)
 cases e:(y.head.id==x.head.id)with
 |true=>
  refine S4 @gx @Z @Y @e ?_
  refine T0 ?_
  have U:y.head.id=x.head.id:=by simpa using e
  exact⟨_,tR _,by unfold VR;rw[decide_eq_true U];rfl,O⟩
 |false=>
  refine S5 @gx @Z @Y @e @row ?_
  refine K0 (cmeet_at x y hx hy _) ?_
  refine T0 ?_
  have U:¬y.head.id=x.head.id:=by simpa using e
  exact⟨_,tR _,by unfold VR;rw[decide_eq_false U];rfl,O⟩
theorem idxother_spec(x:Ext)(hx:JE x=true)(b s K:Nat)(M:Mem)(V:Value)(L:List Ext)(h:Vy K M V L)(hL:∀y∈L,JE y=true)(hl:L.length≤1000)(hb:M.get b=some (.cells false s x.cells)):
 Abs.Spec qc 145 [V,.func (.func 89) #[] #[.pointer (some ⟨b,0,none⟩)]] M fun u M'=>∃z,u=.int .i64 z∧decide (z≥0)=L.any (VR x)∧More M M':=by
 obtain⟨a0,c0,hV⟩:=h.len
 subst hV
 refine Abs.Spec.walkM Tryz.func145 (by rfl) _ Tryz.results145 _ Tryz.ntmps145 (by simp) ?_
 intro hc ac k
 refine J0 (R0 ?_)
 refine J0 (J0 (R0 ?_))
 refine J7 (Jr (fun j f M'=>∃i:Nat,j=L.length-i∧f=[(0,.slice a0 L.length c0),(1,.func (.func 89) #[] #[.pointer (some ⟨b,0,none⟩)]),(7,.int .i64 (L.length:Nat)),(8,.int .i64 (i:Nat))]∧i≤L.length∧
  ((L.take i).any (VR x)=false)∧More M M') L.length ?_ ?_)
 ·refine JK [0,1,7,8] ?_
  exact⟨M,tR _,0,rfl,rfl,by omega,rfl,More.refl _⟩
 ·rintro j f M' ⟨i,rfl,rfl,hi,O,E⟩
  refine J0 (R0 ?_)
  refine J0 (CC (decide ((i:Int)<(L.length:Int))) (fun hq=>J3 ?_) (fun hq=>Jn ?_))
  ·have Y:=of_decide_eq_true hq
   obtain⟨y,Z⟩:∃y,L[i]?=some y:=⟨_,qj (by omega)⟩
   obtain⟨g,rfl,_,hg⟩:=h.at Z
   have U:y∈L:=qH Z
   have z0:(0:Int)≤(i:Int):=by omega
   have r1:=ext_row Z 8
   have gg:=E.get _ _ hg
   have w9:IntKind.i64.wrap ((i:Int)+1)=((i+1:Nat):Int):=by rw[Xn (by omega) (by omega)];omega
   have a2:(L.take (i+1)).any (VR x)=VR x y:=by rw[List.take_add_one,Z,Option.toList_some,List.any_append,O];simp
   simp only[zZ,reduceIte,yQ,yW,yX,yZ,yJ,yK,yV]
   refine J0 (J7 (J0 (R0 ?_)))
   refine J0 (R5 @z0 @Y @and_self @gg @r1 ?_)
   refine⟨by kernel_rfl,_,other_spec x y hx (hL y U) b s M' (E.get _ _ hb),?_⟩
   rintro _ M2 ⟨rfl,a6⟩
   have I:=E.trans a6
   refine S0 ?_
   refine CC (VR x y) (fun he=>J0 (J1 ?_)) (fun he=>J3 ?_)
   ·refine S0 ?_
    refine T0 ?_
    refine⟨M2,tR _,(i:Int),rfl,?_,I⟩
    rw[decide_eq_true (by omega)]
    exact(List.any_eq_true.2 ⟨y,U,he⟩).symm
   ·simp only[zZ,reduceIte,yQ,yW,yX,yZ,yJ,yK,yV]
    refine R1 @w9 ?_
    refine JK [0,1,7,8] ?_
    exact⟨M2,tR _,L.length-(i+1),⟨i+1,rfl,rfl,by omega,by rw[a2];exact he,I⟩,by omega⟩
  ·have Y:=of_decide_eq_false hq
   simp only[zZ,reduceIte,yQ,yW,yX,yZ,yJ,yK,yV]
   refine J0 (R0 ?_)
   refine T0 ?_
   rw[qD (by omega)]at O
   exact⟨M',tR _, -1,rfl,by rw[O];rfl,E⟩
theorem anyother_spec(x:Ext)(hx:JE x=true)(b s K:Nat)(M:Mem)(V:Value)(L:List Ext)(h:Vy K M V L)(hL:∀y∈L,JE y=true)(hl:L.length≤1000)(hb:M.get b=some (.cells false s x.cells)):
 Abs.Spec qc 91 [V,.func (.func 89) #[] #[.pointer (some ⟨b,0,none⟩)]] M fun u M'=>u=.bool (L.any (VR x))∧More M M':=by
 refine Abs.Spec.walkM Tryz.func91 (by rfl) _ Tryz.results91 _ Tryz.ntmps91 (by simp) ?_
 intro hc O k
 refine J0 (R0 ?_)
 refine J0 (R0 ?_)
 refine⟨by kernel_rfl,_,idxother_spec x hx b s K M V L h hL hl hb,?_⟩
 rintro _ U ⟨z,rfl,I,E⟩
 refine S1 @I ?_
 refine T0 ?_
 exact⟨U,tR _,E⟩
def encS(s:List UInt8):List Value:=[.string (str s)]
abbrev QE(k:Nat)(M:Mem)(V:Value)(L:List (List UInt8)):Prop:=OwnL encS 1 k M V L
theorem Str_zero:qC.zero=some (.string ⟨#[]⟩):=rfl
theorem Str_bytes:qC.bytes≤1000:=by decide
theorem Vf(s:List UInt8):JF qc 25 1 [(0,.string (str s))]=some (.cells false 1 (encS s)):=by kernel_rfl
theorem strapp{k:Nat}{M:Mem}{V:Value}{L:List (List UInt8)}(h:QE k M V L)(hk:k≤M.size)(hl:L.length≤1000000)(x:List UInt8):
 ∃M' V',JT qc (M.push (.cells false 1 (encS x))) 25 25 V (.slice (some ⟨M.size,0,none⟩) 1 1)=some (V',M')∧QK V'=some (M.size+1)∧QE k M' V' (L++[x])∧
  M'.size=M.size+2∧(∀b y,QK V≠some b→M.get b=some y→M'.get b=some y):=
 oapp qq Zx Str_zero sz_Str rfl qq (fun _=>rfl) Str_bytes h hk hl x 1
def blkAt(d:Dsk)(x:Ext)(i:Nat):List UInt8:=(d.sector (x.base.toNat+i)).take 224
theorem blocks_spec(P p q g:Nat)(d:Dsk)(D:Dep)(M:Mem)(h:DepAt M P p q g d D)(x:Ext)(n:Nat)(hn:x.head.n=(n:Int))(hb0:13≤x.base)(hb1:x.base+x.head.n≤(d.old.length:Int)):
 Abs.Spec qc 52 [.pointer (some ⟨P,0,none⟩),.agg x.cells.toArray] M fun u M'=>∃V,u=.tuple #[V,.int .i64 (Qx d x).2]∧QE M.size M' V (Qx d x).1∧More M M':=by
 have aC:=h.dsk.ok.n
 obtain⟨Z,hZ⟩:∃Z,Z=Qx d x:=⟨_,rfl⟩
 rw[←hZ]
 unfold Qx at hZ
 rw[hn,qi]at hZ
 refine K5 Tryz.func52 Tryz.results52 Tryz.ntmps52 fun hc hx k=>?_
 have bx:QO qc 85 (.agg x.cells.toArray)=some (.cells false (J6 qc 85) x.cells):=Kv _ rfl
 generalize J6 qc 85=s1 at bx
 have k7:cellIn 7 (some (.cells false s1 x.cells))=some (.int .i64 x.base):=rfl
 have k2:cellIn 2 (some (.cells false s1 x.cells))=some (.int .i64 (n:Nat)):=by rw[←hn];rfl
 obtain⟨b3,ac⟩:∃b,b=M.size:=⟨_,rfl⟩
 obtain⟨I,Y⟩:∃I,I=M.push (.cells false s1 x.cells):=⟨_,rfl⟩
 have mo:More M I:=by rw[Y];exact More.push _ _
 have aL:I.size=M.size+1:=by rw[Y,Mem.size_push]
 have g3:I.get b3=some (.cells false s1 x.cells):=by rw[Y,ac,Mem.get_push_new]
 have h1:=h.same mo.get
 obtain⟨s,vo,vk,a6,ho,hk⟩:=h1.row
 have c0:cellIn 0 (some (.cells false s (JW p D vo vk)))=some (dp p):=rfl
 refine J0 (R1 @bx ?_)
 rw[←Y,←ac]
 refine J0 (R0 ?_)
 refine QB (fun f M'=>∃V,f=[(6,V)]∧QE I.size M' V Z.1∧Z.2=0∧(∀b x,b<I.size→I.get b=some x→M'.get b=some x)∧I.size≤M'.size) ?_ ?_
 ·refine J0 (R2 @g3 @k2 ?_)
  refine J7 (Jr (fun j f M'=>∃(i:Nat)(V:Value),j=n-i∧f=[(0,.pointer (some ⟨P,0,none⟩)),(3,.pointer (some ⟨b3,0,none⟩)),(6,V),(12,.int .i64 (n:Nat)),(13,.int .i64 (i:Nat))]∧i≤n∧(d.dead=true→i=0)∧
   QE I.size M' V ((qI i).map (blkAt d x))∧(∀b x,b<I.size→I.get b=some x→M'.get b=some x)∧I.size≤M'.size) n ?_ ?_)
  ·refine JK [0,3,6,12,13] ?_
   exact⟨I,tR _,0,_,rfl,rfl,by omega,fun _=>rfl,OwnL.nil _ _,fun _ _ _ h=>h,qu _⟩
  ·rintro j f M' ⟨i,V,rfl,rfl,hi,am,U,E,ag⟩
   refine J0 (R0 ?_)
   refine J0 (CC (decide ((i:Int)<(n:Int))) (fun hq=>J3 ?_) (fun hq=>Jn ?_))
   ·have ah:=of_decide_eq_true hq
    have aa:=E _ _ (Mem.get_lt a6) a6
    have ai:=E _ _ (Mem.get_lt g3) g3
    have ad:DskAt M' p q g d:=h1.dsk.same fun b y hy=>E b y (Mem.get_lt hy) hy
    have zw:IntKind.i64.wrap (x.base+(i:Int))=x.base+(i:Int):=Xn (by omega) (by omega)
    have w9:IntKind.i64.wrap ((i:Int)+1)=((i+1:Nat):Int):=by rw[Xn (by omega) (by omega)];omega
    have rs:=read_spec M' p q g d ad (x.base+(i:Int))
    simp only[zZ,reduceIte,yQ,yW,yX,yZ,yJ,yK,yV]
    refine J0 (J7 (J0 (R0 ?_)))
    refine J0 (D5 13 @aa @c0 @ai @k7 @zw ?_)
    refine⟨by kernel_rfl,_,rs,?_⟩
    refine S0 ?_
    cases hdd:d.dead with
    |true=>
     have er:d.read (x.base+(i:Int))=([],7):=by
      unfold Dsk.read Dsk.may
      rw[if_pos hdd]
      rfl
     have a2:Z=([],7):=by rw[hZ,if_pos ⟨hdd,by omega⟩]
     have ap:((7:Int) !=0)=true:=rfl
     rw[er]
     refine J0 (J0 (R1 @ap ?_))
     refine CT (J0 (R0 ?_))
     refine T0 ?_
     subst a2
     exact⟨_,tR _,_,rfl,OwnL.nil _ _,fun b y hb=>E b y (by have:=Mem.get_lt (mo.get b y hb);omega) (mo.get b y hb),by omega⟩
    |false=>
     have et:(x.base+(i:Int)).toNat=x.base.toNat+i:=by omega
     have er:d.read (x.base+(i:Int))=(d.sector (x.base.toNat+i),0):=by
      have hm:d.may (x.base+(i:Int))=0:=by
       unfold Dsk.may
       rw[if_neg (by rw[hdd];decide),if_neg (by omega)]
      unfold Dsk.read
      rw[if_pos hm,et]
     have hl:=h.dsk.ok.sector (i:=x.base.toNat+i) (by omega)
     have sl:=fun get=>Zp get (str (d.sector (x.base.toNat+i))) 224 (by rw[str_size];omega)
     have al:∀get,Q1 qc get 9 (.string (str (d.sector (x.base.toNat+i)))) none (some (.int .i64 224))=some (.string (str (blkAt d x i))):=sl
     have ao:((0:Int) !=0)=false:=rfl
     have nw:=Vf (blkAt d x i)
     have e6:(qI i).map (blkAt d x)++[blkAt d x i]=(qI (i+1)).map (blkAt d x):=by rw[List.range_succ,List.map_append];rfl
     obtain⟨M4,V4,an,aK,O,az,a7⟩:=strapp U ag (by simp;omega) (blkAt d x i)
     rw[e6]at O
     rw[er]
     refine J0 (J0 (R1 @ao ?_))
     refine CF (J3 ?_)
     simp only[zZ,reduceIte,yQ,yW,yX,yZ,yJ,yK,yV]
     refine R3 @al @nw @an ?_
     refine R1 @w9 ?_
     refine JK [0,3,6,12,13] ?_
     exact⟨_,tR _,n-(i+1),⟨i+1,V4,rfl,rfl,by omega,fun hd=>(by cases hd),O,fun b y hb hy=>a7 b y (fun e=>by have:=(U.live e).1;omega) (E b y hb hy),by omega⟩,by omega⟩
   ·have ah:=of_decide_eq_false hq
    obtain rfl:i=n:=by omega
    have a2:Z=((qI i).map (blkAt d x),0):=by
     rw[hZ,if_neg]
     ·rfl
     ·rintro⟨a,b⟩
      have:=am a
      omega
    refine JK [6] ?_
    exact⟨_,tR _,V,rfl,by rw[a2];exact U,by rw[a2],E,ag⟩
 rintro _ M2 ⟨V2,rfl,a8,aj,ab,hs2⟩
 refine J0 (R0 ?_)
 refine T0 ?_
 exact⟨_,tR _,V2,by rw[aj],a8.le (by omega),fun b x hb=>ab b x (by have:=Mem.get_lt (mo.get b x hb);omega) (mo.get b x hb),by omega⟩
structure ArcOk(key:List UInt8)(a:Arc):Prop where
 may:a.head.okP
 ver:a.head.verify key=0
 len:(a.blocks.length:Int)=a.head.n
 size:∀b∈a.blocks,b.length=224
 root:str (UG a.blocks)=a.head.root
def Arc.ext(a:Arc):Ext:=⟨a.head,13⟩
def Sure(a:Arc)(d:Dsk)(G:List Bool):Prop:=∀k b,G[k]?=some true→a.blocks[k]?=some b→∀t,d.poss (13+k) t→t=Jg b
theorem Sure.less{a:Arc}{d d':Dsk}{G:List Bool}(h:Sure a d G)(hp:∀i t,13≤i→d'.poss i t→d.poss i t∨∃k b,i=13+k∧a.blocks[k]?=some b∧t=Jg b):Sure a d' G:=fun k b hk hb t ht=>by
 rcases hp (13+k) t (by omega) ht with h1|⟨k',b',h1,h2,h3⟩
 ·exact h k b hk hb t h1
 ·obtain rfl:k=k':=by omega
  rw[hb]at h2;cases h2;exact h3
structure Hist(a:Arc)(d:Dsk)(e:Nat)(P:List Bool→Prop):Prop where
 ok:d.Ok
 n:20≤d.old.length
 s0:∀s,d.poss 0 s→∃k:Nat,1≤k∧k≤e∧s=Jg (Jm k)
 free:∀i,(2≤i∧i≤4)∨(6≤i∧i≤12)→∀s,d.poss i s→JN s=[]
 s1:∀s,d.poss 1 s→JN s=[]∨∃G,(G.length:Int)=a.head.n∧P G∧s=Jg (JY ⟨a.ext,G⟩)∧Sure a d G
 s5:∀s,d.poss 5 s→JN s=[]∨(s=Jg (Jy a.ext)∧Sure a d (qd a.blocks.length true))
theorem Hist.less{a:Arc}{d d':Dsk}{e:Nat}{P:List Bool→Prop}(h:Hist a d e P)(hok:d'.Ok)(hn:d'.old.length=d.old.length)(hp:∀i t,d'.poss i t→d.poss i t):Hist a d' e P where
 ok:=hok
 n:=by rw[hn];exact h.n
 s0 s hs:=h.s0 s (hp _ _ hs)
 free i hi s hs:=h.free i hi s (hp _ _ hs)
 s1 s hs:=(h.s1 s (hp _ _ hs)).imp id fun⟨G,h1,h2,h3,h4⟩=>⟨G,h1,h2,h3,h4.less fun i t _ ht=>.inl (hp i t ht)⟩
 s5 s hs:=(h.s5 s (hp _ _ hs)).imp id fun⟨h1,h2⟩=>⟨h1,h2.less fun i t _ ht=>.inl (hp i t ht)⟩
theorem Hist.weaken{a:Arc}{d:Dsk}{e e':Nat}{P P':List Bool→Prop}(h:Hist a d e P)(he:e≤e')(hp:∀G,P G→P' G):Hist a d e' P' where
 ok:=h.ok
 n:=h.n
 s0 s hs:=by obtain⟨k,h1,h2,h3⟩:=h.s0 s hs;exact⟨k,h1,by omega,h3⟩
 free:=h.free
 s1 s hs:=(h.s1 s hs).imp id fun⟨G,h1,h2,h3,h4⟩=>⟨G,h1,hp G h2,h3,h4⟩
 s5:=h.s5
theorem Hist.record{a:Arc}{d:Dsk}{e:Nat}{P:List Bool→Prop}(h:Hist a d e P){x:List UInt8}(hx:x.length≤256)(hg:x=[]∨∃G,(G.length:Int)=a.head.n∧P G∧x=JY ⟨a.ext,G⟩∧Sure a d G):Hist a (d.write ((1:Nat):Int) x).1 e P:=by
 have hi:1<d.old.length:=by have:=h.n;omega
 have O:∀i t,(d.write ((1:Nat):Int) x).1.poss i t→d.poss i t∨(i=1∧t=Jg x):=fun i t ht=>Dsk.write_poss hi hx ht
 have hs:∀G,Sure a d G→Sure a (d.write ((1:Nat):Int) x).1 G:=fun G hG=>hG.less fun i t hi ht=>by
  rcases O i t ht with E|⟨E,_⟩
  ·exact .inl E
  ·omega
 refine⟨Dsk.write_ok h.ok hi hx,by rw[Dsk.write_old hi hx];exact h.n,fun s ht=>?_,fun i hi s ht=>?_,fun s ht=>?_,fun s ht=>?_⟩
 ·rcases O 0 s ht with E|⟨E,_⟩
  ·exact h.s0 s E
  ·cases E
 ·rcases O i s ht with E|⟨E,_⟩
  ·exact h.free i hi s E
  ·omega
 ·rcases O 1 s ht with E|⟨_,rfl⟩
  ·exact(h.s1 s E).imp id fun⟨G,h2,I,h4,U⟩=>⟨G,h2,I,h4,hs G U⟩
  ·rcases hg with rfl|⟨G,h2,I,rfl,U⟩
   ·exact .inl blank_filled
   ·exact .inr ⟨G,h2,I,rfl,hs G U⟩
 ·rcases O 5 s ht with E|⟨E,_⟩
  ·exact(h.s5 s E).imp id fun⟨h2,I⟩=>⟨h2,hs _ I⟩
  ·cases E
theorem Hist.cat{a:Arc}{d:Dsk}{e:Nat}{P:List Bool→Prop}(h:Hist a d e P)(hx:(Jy a.ext).length≤256)(hg:Sure a d (qd a.blocks.length true)):Hist a (d.write ((5:Nat):Int) (Jy a.ext)).1 e P:=by
 have hi:5<d.old.length:=by have:=h.n;omega
 have I:∀i t,(d.write ((5:Nat):Int) (Jy a.ext)).1.poss i t→d.poss i t∨(i=5∧t=Jg (Jy a.ext)):=fun i t ht=>Dsk.write_poss hi hx ht
 have hs:∀G,Sure a d G→Sure a (d.write ((5:Nat):Int) (Jy a.ext)).1 G:=fun G hG=>hG.less fun i t hi ht=>by
  rcases I i t ht with E|⟨E,_⟩
  ·exact .inl E
  ·omega
 refine⟨Dsk.write_ok h.ok hi hx,by rw[Dsk.write_old hi hx];exact h.n,fun s ht=>?_,fun i hi s ht=>?_,fun s ht=>?_,fun s ht=>?_⟩
 ·rcases I 0 s ht with E|⟨E,_⟩
  ·exact h.s0 s E
  ·cases E
 ·rcases I i s ht with E|⟨E,_⟩
  ·exact h.free i hi s E
  ·omega
 ·rcases I 1 s ht with E|⟨E,_⟩
  ·exact(h.s1 s E).imp id fun⟨G,h2,h3,h4,h5⟩=>⟨G,h2,h3,h4,hs G h5⟩
  ·cases E
 ·rcases I 5 s ht with E|⟨_,rfl⟩
  ·exact(h.s5 s E).imp id fun⟨h2,h3⟩=>⟨h2,hs _ h3⟩
  ·exact .inr ⟨rfl,hs _ hg⟩
theorem Hist.data{a:Arc}{d:Dsk}{e:Nat}{P:List Bool→Prop}(h:Hist a d e P){k:Nat}{b:List UInt8}(hb:a.blocks[k]?=some b)(hx:b.length≤256)(hk:13+k<d.old.length):Hist a (d.write ((13+k:Nat):Int) b).1 e P:=by
 have hi:13+k<d.old.length:=hk
 have I:∀i t,(d.write ((13+k:Nat):Int) b).1.poss i t→d.poss i t∨(i=13+k∧t=Jg b):=fun i t ht=>Dsk.write_poss hi hx ht
 have hs:∀G,Sure a d G→Sure a (d.write ((13+k:Nat):Int) b).1 G:=fun G hG=>hG.less fun i t _ ht=>by
  rcases I i t ht with E|⟨E,h2⟩
  ·exact .inl E
  ·exact .inr ⟨k,b,E,hb,h2⟩
 refine⟨Dsk.write_ok h.ok hi hx,by rw[Dsk.write_old hi hx];exact h.n,fun s ht=>?_,fun i hi s ht=>?_,fun s ht=>?_,fun s ht=>?_⟩
 ·rcases I 0 s ht with E|⟨E,_⟩
  ·exact h.s0 s E
  ·omega
 ·rcases I i s ht with E|⟨E,_⟩
  ·exact h.free i hi s E
  ·omega
 ·rcases I 1 s ht with E|⟨E,_⟩
  ·exact(h.s1 s E).imp id fun⟨G,h2,h3,h4,h5⟩=>⟨G,h2,h3,h4,hs G h5⟩
  ·omega
 ·rcases I 5 s ht with E|⟨E,_⟩
  ·exact(h.s5 s E).imp id fun⟨h2,h3⟩=>⟨h2,hs _ h3⟩
  ·omega
theorem Hist.sync{a:Arc}{d:Dsk}{e:Nat}{P:List Bool→Prop}(h:Hist a d e P):Hist a d.sync.1 e P:=
 h.less (Dsk.sync_ok h.ok) (Dsk.sync_len h.ok.pos) fun _ _ ht=>Dsk.sync_poss h.ok.pos ht
theorem Hist.crash{a:Arc}{d:Dsk}{e:Nat}{P:List Bool→Prop}(h:Hist a d e P)(bits:Int):Hist a (d.crash bits) e P:=
 h.less (Dsk.crash_ok h.ok bits) (Dsk.crash_len d bits) fun _ _ ht=>(Dsk.crash_poss ht).1
theorem push_set(m:Mem)(x y:Blk):(m.push x).set m.size (some y)=m.push y:=by
 unfold Mem.push Mem.set Mem.size
 simp
theorem mk_SS(m:Mem)(n:Nat)(hn:n≤1000000):ZX qc m 25 (.int .i64 (n:Nat)) (.int .i64 (n:Nat))=some (.slice (some ⟨m.size,0,none⟩) n n,m.push (.cells false 1 (qd n (.string ⟨#[]⟩)))):=by
 have E:qC.zero=some (.string ⟨#[]⟩):=rfl
 have hb:qC.bytes≤100:=by decide
 have hs:qC.size=1:=rfl
 unfold ZX
 simp only[qq,Zx,E,hs]
 have hc:((qC.bytes:Nat):Int)*((n:Nat):Int)≤281474976710656:=by
  have:qC.bytes*n≤100*1000000:=Nat.mul_le_mul hb hn
  rw[←Int.natCast_mul];omega
 rw[if_pos ⟨rfl,by decide,rfl,by omega,Int.le_refl _,hc,by omega⟩]
 simp only[qi,Nat.mul_one]
 rfl
theorem copy_SS{m:Mem}{b o dl dc b2 o2 n nc s2:Nat}{r2:Bool}{cs cs2:List Value}(hb:m.get b=some (.cells false 1 cs))(hb2:m.get b2=some (.cells r2 s2 cs2))(h1:o2+min n dl≤cs2.length)(h2:o+min n dl≤cs.length):
 aCopy qc m 25 25 (.slice (some ⟨b,o,none⟩) dl dc) (.slice (some ⟨b2,o2,none⟩) n nc)=some (.int .i64 (min n dl:Nat),m.set b (some (.cells false 1 (setL cs o ((cs2.drop o2).take (min n dl)))))):=by
 have hs:qC.size=1:=rfl
 unfold aCopy
 simp only[qq,Zx,hs,hb,hb2,Nat.mul_one]
 rw[if_pos ⟨h1,h2⟩]
theorem sl_SS{get:Nat→Option Blk}{b len cap:Nat}{ro:Bool}{cs:List Value}(hb:get b=some (.cells ro 1 cs))(l:Nat)(h1:l≤len):
 Q1 qc get 25 (.slice (some ⟨b,0,none⟩) len cap) (some (.int .i64 (l:Nat))) none=some (.slice (some ⟨b,l,none⟩) (len-l) (cap-l)):=by
 have hs:qC.size=1:=rfl
 have hc:(0:Int)≤(l:Int)∧(l:Int)≤(len:Int):=by omega
 unfold Q1 X9
 simp only[qq,Zx,hs,hb,if_pos hc,if_true,Nat.mul_one,qA,qi]
theorem sl_SS2{get:Nat→Option Blk}{b len cap:Nat}{ro:Bool}{cs:List Value}(hb:get b=some (.cells ro 1 cs))(h:Nat)(h1:h≤cap):
 Q1 qc get 25 (.slice (some ⟨b,0,none⟩) len cap) none (some (.int .i64 (h:Nat)))=some (.slice (some ⟨b,0,none⟩) h cap):=by
 have hs:qC.size=1:=rfl
 have hc:(0:Int)≤(h:Int)∧(h:Int)≤(cap:Int):=by omega
 unfold Q1 X9
 simp only[qq,Zx,hs,hb,if_pos hc,if_true,Nat.mul_one,qA,qi,Nat.sub_zero]
theorem setL_mid:∀(a b c:List Value),b.length≤c.length→setL (a++c) a.length b=a++b++c.drop b.length
 | [],[],c,_=>by simp[setL]
 |a,x::b,[],h=>by simp at h
 |a,[],c,_=>by simp[setL]
 |a,x::b,y::c,h=>by
  have ih:=setL_mid (a++[x]) b c (by simpa using h)
  rw[setL]
  have e:(a++y::c).set a.length x=(a++[x])++c:=by simp
  rw[e]
  simp only[qp,List.length_cons,List.length_nil]at ih
  rw[ih]
  simp
theorem repeatS_spec(M:Mem)(b:Nat)(s:ByteArray)(n:Nat)(hn:1≤n)(hn2:n≤100000)(ro:Bool)(st:Nat)(hb:M.get b=some (.cells ro st [.string s])):
 Abs.Spec qc 63 [.slice (some ⟨b,0,none⟩) 1 1,.int .i64 (n:Nat)] M fun u M'=>u=.slice (some ⟨M.size,0,none⟩) n n∧M'=M.push (.cells false 1 (qd n (.string s))):=by
 refine Abs.Spec.walkM Tryz.func63 (by rfl) _ Tryz.results63 _ Tryz.ntmps63 (by simp) ?_
 intro hc hx k
 refine J0 (J1 ?_)
 simp only[zZ,reduceIte,yQ,yW,yX,yZ,yJ,yK,yV,zDk,Jc,Jb,J9,J8,qe,qh]
 refine J0 (J0 (J1 ?_))
 simp only[zZ,reduceIte,yQ,yW,yX,yZ,yJ,yK,yV,zDk,Jc,Jb,J9,J8,qe,qh]
 refine Qd (decide ((n:Int)<0)) (by rfl) (fun h=>absurd (of_decide_eq_true h) (by omega)) (fun _=>J3 ?_)
 simp only[zZ,reduceIte,yQ,yW,yX,yZ,yJ,yK,yV,zDk,Jc,Jb,J9,J8,qe,qh]
 refine J0 (J1 ?_)
 have w1:IntKind.u64.wrap ((1:Nat):Int)=((1:Nat):Int):=by decide
 have w2:IntKind.u64.wrap (n:Int)=((n:Nat):Int):=by unfold IntKind.wrap;simp[IntKind.bits,IntKind.signed];omega
 have O:=fun m=>mul_spec 1 n (by omega) (by omega) m
 rw[show 1*n/18446744073709551616=0 by omega,show 1*n%18446744073709551616=n by omega]at O
 simp only[zZ,reduceIte,yQ,yW,yX,yZ,yJ,yK,yV,zDk,Jc,Jb,J9,J8,qe,qh,w1,w2]
 refine⟨by kernel_rfl,_,O _,?_⟩
 rintro _ M9 ⟨rfl,e9⟩;replace e9:=e9.symm;subst e9
 have q1:decide (((0:Nat):Int)>0)=false:=rfl
 have q2:decide ((n:Int)>9223372036854775807)=false:=decide_eq_false (by omega)
 simp only[zZ,reduceIte,yQ,yW,yX,yZ,yJ,yK,yV,zDk,Jc,Jb,J9,J8,qe,qh]
 refine J0 (J0 (J1 ?_))
 simp only[zZ,reduceIte,yQ,yW,yX,yZ,yJ,yK,yV,zDk,Jc,Jb,J9,J8,qe,qh,q1,q2]
 refine Qd false (by rfl) (fun h=>by cases h) (fun _=>J3 ?_)
 simp only[zZ,reduceIte,yQ,yW,yX,yZ,yJ,yK,yV,zDk,Jc,Jb,J9,J8,qe,qh]
 have w3:IntKind.i64.wrap ((n:Nat):Int)=((n:Nat):Int):=Xn (by omega) (by omega)
 refine J0 (J1 ?_)
 simp only[zZ,reduceIte,yQ,yW,yX,yZ,yJ,yK,yV,zDk,Jc,Jb,J9,J8,qe,qh,w3,mk_SS M n (by omega)]
 obtain⟨M1,E⟩:∃M1,M1=M.push (.cells false 1 (qd n (.string ⟨#[]⟩))):=⟨_,rfl⟩
 obtain⟨g,Z⟩:∃g,g=M.size:=⟨_,rfl⟩
 have ab:M1.get g=some (.cells false 1 (qd n (.string ⟨#[]⟩))):=by rw[E,Z,Mem.get_push_new]
 have a8:M1.get b=some (.cells ro st [.string s]):=by rw[E,Mem.get_push_old (Qb hb)];exact hb
 rw[←E,←Z]
 have Y:=copy_SS (o:=0) (dl:=n) (dc:=n) (o2:=0) (n:=1) (nc:=1) ab a8 (by simp;omega) (by simp;omega)
 rw[show min 1 n=1 by omega]at Y
 refine J0 (J1 ?_)
 simp only[zZ,reduceIte,yQ,yW,yX,yZ,yJ,yK,yV,zDk,Jc,Jb,J9,J8,qe,qh,Y]
 refine J0 (J7 (Jr (fun j f M'=>∃c:Nat,1≤c∧c≤n∧j=n-c∧f=[(7,.slice (some ⟨g,0,none⟩) n n),(8,.int .i64 (c:Nat))]∧
  M'=M.push (.cells false 1 (qd c (.string s)++qd (n-c) (.string ⟨#[]⟩)))) (n-1) ?_ ?_))
 ·refine⟨[7,8],?_⟩
  simp only[zZ,reduceIte,yQ,yW,yX,yZ,yJ,yK,yV,keepF]
  refine⟨_,tR _,1,qu _,hn,rfl,rfl,?_⟩
  rw[E,Z,push_set]
  congr 2
  obtain⟨k,rfl⟩:∃k,n=k+1:=⟨n-1,by omega⟩
  rfl
 ·rintro j f M' ⟨c,ak,a6,rfl,rfl,U⟩
  refine J0 (J0 (J1 ?_))
  simp only[zZ,reduceIte,yQ,yW,yX,yZ,yJ,yK,yV,zDk,Jc,Jb,J9,J8,qe,qh]
  refine Qd (decide ((c:Int)<(n:Int))) (by rfl) (fun h=>J3 ?_) (fun h=>Jn ?_)
  ·have h:=of_decide_eq_true h
   simp only[zZ,reduceIte,yQ,yW,yX,yZ,yJ,yK,yV]
   refine J7 (CW_draw2 hmix 7 (by kernel_rfl) ?_)
   have I:M'.get g=some (.cells false 1 (qd c (.string s)++qd (n-c) (.string ⟨#[]⟩))):=by rw[U,Z,Mem.get_push_new]
   have a2:=copy_SS (o:=c) (dl:=n-c) (dc:=n-c) (o2:=0) (n:=c) (nc:=n) I I (by simp;omega) (by simp;omega)
   have w5:IntKind.i64.wrap ((c:Int)+((min c (n-c):Nat):Int))=((c+min c (n-c):Nat):Int):=by rw[Xn (by omega) (by omega)];omega
   simp only[zZ,reduceIte,yQ,yW,yX,yZ,yJ,yK,yV,zDk,Jc,Jb,J9,J8,qe,qh,sl_SS I c a6,sl_SS2 I c a6,a2,w5]
   refine⟨[7,8],?_⟩
   simp only[zZ,reduceIte,yQ,yW,yX,yZ,yJ,yK,yV,keepF]
   refine⟨_,tR _,n-(c+min c (n-c)),⟨c+min c (n-c),by omega,by omega,rfl,rfl,?_⟩,by omega⟩
   rw[U,Z,push_set]
   congr 2
   have e1:(qd c (Value.string s)++qd (n-c) (Value.string ⟨#[]⟩)).take (min c (n-c))=qd (min c (n-c)) (Value.string s):=by
    rw[List.take_append_of_le_length (by simp;omega),List.take_replicate]
    congr 1;omega
   have e2:=setL_mid (qd c (Value.string s)) (qd (min c (n-c)) (Value.string s)) (qd (n-c) (Value.string ⟨#[]⟩)) (by simp;omega)
   rw[qG]at e2
   rw[e1,e2,List.replicate_append_replicate,qG,List.drop_replicate]
   congr 2
   omega
  ·have h:=of_decide_eq_false h
   have ac:c=n:=by omega
   subst ac
   simp only[zZ,reduceIte,yQ,yW,yX,yZ,yJ,yK,yV]
   refine J0 (J1 ?_)
   simp only[zZ,reduceIte,yQ,yW,yX,yZ,yJ,yK,yV,zDk,Jc,Jb,J9,J8,qe,qh]
   refine QC ?_
   simp only[zZ,reduceIte,yQ,yW,yX,yZ,yJ,yK,yV,zDk,Jc,Jb,J9,J8,qe,qh,mEnd,sAnswer,sAnswer.sRes]
   refine⟨M',tR _,?_⟩
   rw[U]
   simp
def zeroS:List UInt8:=qd 256 0
def Q9(n:Nat):Dsk:=⟨qd n zeroS,[],0, -1,false⟩
theorem newDsk_ok(n:Nat)(h1:1≤n)(h2:n≤1024):(Q9 n).Ok:=
 ⟨by simpa[Q9]using h2,by simp[Q9];omega,fun s hs=>by simp only[Q9,List.mem_replicate]at hs;rw[hs.2];exact qG,by simp[Q9],by simp[Q9],fun x hx=>by simp[Q9]at hx,fun x hx=>by simp[Q9]at hx,by simp[Q9],trivial⟩
theorem new_spec(M:Mem)(n:Nat)(h1:1≤n)(h2:n≤1024):
 Abs.Spec qc 24 [.int .i64 (n:Nat)] M fun u M'=>∃p q g,u=.tuple #[dp p,.int .i64 0]∧DskAt M' p q g (Q9 n)∧M.size≤p∧M.size≤q∧M.size≤g∧Only [] M M'∧M.size≤M'.size:=by
 refine Abs.Spec.walkM Tryz.func24 (by rfl) _ Tryz.results24 _ Tryz.ntmps24 (by simp) ?_
 intro hc hx k
 have q1:decide ((n:Int)<1)=false:=decide_eq_false (by omega)
 have q2:decide ((n:Int)>1024)=false:=decide_eq_false (by omega)
 refine J0 (J1 ?_)
 simp only[zZ,reduceIte,yQ,yW,yX,yZ,yJ,yK,yV,zDk,Jc,Jb,J9,J8,qe,qh]
 refine J0 (J0 (J1 ?_))
 simp only[zZ,reduceIte,yQ,yW,yX,yZ,yJ,yK,yV,zDk,Jc,Jb,J9,J8,qe,qh,q1,q2]
 refine Qd false (by rfl) (fun h=>by cases h) (fun _=>J3 ?_)
 simp only[zZ,reduceIte,yQ,yW,yX,yZ,yJ,yK,yV,zDk,Jc,Jb,J9,J8,qe,qh]
 refine J0 (J1 ?_)
 simp only[zZ,reduceIte,yQ,yW,yX,yZ,yJ,yK,yV,zDk,Jc,Jb,J9,J8,qe,qh]
 refine⟨by kernel_rfl,_,repeat_spec (str [0]) 256 (by omega) (by show 1*256≤_;omega) _,?_⟩
 rintro _ M9 ⟨rfl,e9⟩;replace e9:=e9.symm;subst e9
 have U:str (Lib.repeatL (str [0]).data.toList 256)=str zeroS:=by
  show str (Lib.repeatL [0] 256)=_
  rw[rep_zero];rfl
 rw[U]
 simp only[zZ,reduceIte,yQ,yW,yX,yZ,yJ,yK,yV,zDk,Jc,Jb,J9,J8,qe,qh]
 have a2:JF qc 25 1 [(0,.string (str zeroS))]=some (.cells false 1 [.string (str zeroS)]):=by kernel_rfl
 refine J0 (J1 ?_)
 simp only[zZ,reduceIte,yQ,yW,yX,yZ,yJ,yK,yV,zDk,Jc,Jb,J9,J8,qe,qh,a2]
 refine⟨by kernel_rfl,_,repeatS_spec (M.push (.cells false 1 [.string (str zeroS)])) M.size (str zeroS) n h1 (by omega) false 1 (Mem.get_push_new _ _),?_⟩
 rintro _ E ⟨rfl,I⟩
 have hs2:E.size=M.size+2:=by rw[I];simp only[Mem.size_push]
 have O:∀b x,M.get b=some x→E.get b=some x:=fun b x hb=>by
  have:=Qb hb
  rw[I,Mem.get_push_old (by rw[Mem.size_push];omega),Mem.get_push_old this];exact hb
 have a6:E.get (M.size+1)=some (.cells false 1 (qd n (.string (str zeroS)))):=by
  have:=Mem.get_push_new (M.push (.cells false 1 [.string (str zeroS)])) (.cells false 1 (qd n (.string (str zeroS))))
  rw[Mem.size_push]at this
  rw[I];exact this
 have Y:QO qc 93 (.agg #[.slice (some ⟨M.size+1,0,none⟩) n n,.map (some E.size),.int .i64 (-1),.bool false])=some (.cells false (J6 qc 93) [.slice (some ⟨M.size+1,0,none⟩) n n,.map (some E.size),.int .i64 (-1),.bool false]):=bx_Dsk _ rfl
 generalize J6 qc 93=s1 at Y
 have Z:Qj qc 93 [(0,.slice (some ⟨M.size+1,0,none⟩) n n),(1,.map (some E.size)),(2,.int .i64 (-1))]=some (.agg #[.slice (some ⟨M.size+1,0,none⟩) n n,.map (some E.size),.int .i64 (-1),.bool false]):=by kernel_rfl
 simp only[zZ,reduceIte,yQ,yW,yX,yZ,yJ,yK,yV,zDk,Jc,Jb,J9,J8,qe,qh,Mem.size_push,Z,Y]
 refine QC ?_
 simp only[zZ,reduceIte,yQ,yW,yX,yZ,yJ,yK,yV,zDk,Jc,Jb,J9,J8,qe,qh,mEnd,sAnswer,sAnswer.sRes]
 refine⟨_,tR _,E.size+1,E.size,M.size+1,rfl,⟨newDsk_ok n h1 h2,⟨s1,?_⟩,?_,?_,by omega,by omega,by omega⟩,by omega,by omega,by omega,fun b x _ hb=>?_,by simp only[Mem.size_push];omega⟩
 ·have:=Mem.get_push_new (E.push (.kv false [] 0)) (.cells false s1 [.slice (some ⟨M.size+1,0,none⟩) n n,.map (some E.size),.int .i64 (-1),.bool false])
  rw[Mem.size_push]at this
  rw[this]
  simp[dskC,Q9]
 ·rw[Mem.get_push_old (by rw[Mem.size_push];omega),Mem.get_push_new];rfl
 ·rw[Mem.get_push_old (by rw[Mem.size_push];omega),Mem.get_push_old (by omega),a6]
  simp[Q9]
 ·have:=Qb hb
  rw[Mem.get_push_old (by rw[Mem.size_push];omega),Mem.get_push_old (by omega)]
  exact O b x hb
theorem Vm(M:Mem)(N:List (Option Blk))(y:Blk):(M.app N).push y=M.app (N++[some y]):=by
 simp[Mem.app,Mem.push]
theorem UX(M:Mem)(N:List (Option Blk)):(M.app N).size=M.size+N.length:=by
 simp[Mem.app,Mem.size]
theorem app_set(M:Mem)(N:List (Option Blk))(g:Nat)(o:Option Blk)(hg:M.size≤g):(M.app N).set g o=M.app (N.set (g-M.size) o):=by
 unfold Mem.app Mem.set
 unfold Mem.size at hg
 simp only
 rw[qo _ _ hg,List.map_set]
 rfl
theorem own_set{N:List (Option Blk)}(h:N.all ZK=true)(i:Nat)(o:Option Blk)(ho:ZK o=true):(N.set i o).all ZK=true:=by
 rw[List.all_eq_true]at h ⊢
 intro x hx
 rcases qy hx with hx|rfl
 ·exact h x hx
 ·exact ho
section
variable {α : Type} {enc : α → List Value} {N : Nat}
variable {P : Program} {t tx e d : TypeId} {i : TypeInfo} {z : Value}
theorem oappx(hu:P.underlying t=some (.slice e))(hi:P.info? e=some i)(hz:i.zero=some z)(hs:i.size=N)(hzc:z.cells.toList.length=N)(hx:P.underlying tx=some (.slice d))(henc:∀a,(enc a).length=N)(hby:i.bytes≤1000)
 {k:Nat} {M0 M:Mem} {N0:List (Option Blk)} {V:Value} {L:List α} (hM:M=M0.app N0) (hN0:N0.all ZK=true) (h:OwnL enc N k M V L) (hk0:M0.size≤k) (hk:k≤M.size) (hl:L.length≤1000000) (x:α) (sn:Nat):
 ∃N1 V',JT P (M.push (.cells false sn (enc x))) t tx V (.slice (some ⟨M.size,0,none⟩) 1 1)=some (V',M0.app N1)∧N1.all ZK=true∧OwnL enc N k (M0.app N1) V' (L++[x])∧
  (M0.app N1).size=M.size+2∧(∃a n c,V'=.slice a n c):=by
 have E:=src_block (P:=P) (m:=M.push (.cells false sn (enc x))) (c:=1) (k:=1) (N:=N) (news:=enc x) (ro:=false) (s:=sn) hx (Mem.get_push_new M _) (by rw[henc];omega)
 rcases h with⟨rfl,rfl⟩|⟨h0,g,Z,rfl,Y⟩
 ·have I:=gapp_nil (P:=P) (N:=N) (k:=1) (news:=enc x) hu hi hz hs hzc (M.push (.cells false sn (enc x))) E (by decide) (by omega) (by decide)
  rw[Mem.size_push]at I
  have O:(M.push (.cells false sn (enc x))).push (.cells false N (enc x))=M0.app (N0++[some (Blk.cells false sn (enc x))]++[some (Blk.cells false N (enc x))]):=by rw[hM,Vm,Vm]
  rw[O]at I
  refine⟨_,_,I,?_,.inr ⟨by simp,M.size+1,by omega,rfl,?_⟩,?_,_,_,_,rfl⟩
  ·rw[qJ,qJ,hN0];rfl
  ·rw[←O]
   have:=Mem.get_push_new (M.push (.cells false sn (enc x))) (.cells false N (enc x))
   rw[Mem.size_push]at this
   rw[this]
   simp
  ·rw[←O];simp only[Mem.size_push]
 ·have U:=Mem.get_lt Y
  have I:=gapp (P:=P) (N:=N) (k:=1) (n:=L.length) (cs:=L.flatMap enc) (news:=enc x) hu hi hz hs hzc (M.push (.cells false sn (enc x))) E (by decide)
   (by rw[Mem.get_push_old U];exact Y) (flat_length henc L) (by have:=Nat.mul_le_mul (show L.length+1≤1000001 by omega) hby;omega) (by omega)
  rw[Mem.size_push]at I
  have O:((M.push (.cells false sn (enc x))).set g none).push (.cells false N (L.flatMap enc++enc x))=M0.app ((N0++[some (Blk.cells false sn (enc x))]).set (g-M0.size) none++[some (Blk.cells false N (L.flatMap enc++enc x))]):=by rw[hM,Vm,app_set _ _ _ _ (by omega),Vm]
  rw[O]at I
  refine⟨_,_,I,?_,.inr ⟨by simp,M.size+1,by omega,by simp,?_⟩,?_,_,_,_,rfl⟩
  ·rw[qJ,own_set (by rw[qJ,hN0];rfl) _ _ rfl];rfl
  ·rw[←O]
   have:=Mem.get_push_new ((M.push (.cells false sn (enc x))).set g none) (.cells false N (L.flatMap enc++enc x))
   rw[Mem.size_set,Mem.size_push]at this
   rw[this,List.flatMap_append];simp
  ·rw[←O];simp only[Mem.size_push,Mem.size_set]
end
def StepE(M:Mem)(o:Option Ext)(p p':List (Option Blk)×Value):Prop:=match o with
 |some x=>JT qc ((M.app p.1).push (.cells false 8 x.cells)) 82 82 p.2 (.slice (some ⟨(M.app p.1).size,0,none⟩) 1 1)=some (p'.2,M.app p'.1)
 |none=>p'=p
def InvE(M:Mem)(es:List (Option Ext))(i:Nat)(p:List (Option Blk)×Value):Prop:=p.1.all ZK=true∧Vy M.size (M.app p.1) p.2 ((es.take i).filterMap id)
theorem chainE(M:Mem)(es:List (Option Ext))(hl:es.length≤1000):∀n,n≤es.length→∃sq:Nat→List (Option Blk)×Value,sq 0=([],.slice none 0 0)∧(∀i,i≤n→InvE M es i (sq i))∧∀(i:Nat) o,i<n→es[i]?=some o→StepE M o (sq i) (sq (i+1)):=by
 intro n
 induction n with
 |zero=>
  intro _
  refine⟨fun _=>([],.slice none 0 0),rfl,fun i hi=>?_,fun i o hi=>by omega⟩
  obtain rfl:i=0:=by omega
  exact⟨rfl,OwnL.nil _ _⟩
 |succ n ih=>
  intro hn
  obtain⟨sq,h0,h1,h2⟩:=ih (by omega)
  obtain⟨o,Y⟩:∃o,es[n]?=some o:=⟨_,qj (by omega)⟩
  have E:=filtm_step Y
  obtain⟨I,U,O⟩:∃I,InvE M es (n+1) I∧StepE M o (sq n) I:=by
   obtain⟨i1,i2⟩:=h1 n (qu _)
   cases o with
   |none=>
    refine⟨sq n,⟨i1,?_⟩,rfl⟩
    rw[E,Option.toList_none,List.append_nil];exact i2
   |some x=>
    have Z:=filtm_len es n
    obtain⟨N1,V',a1,a2,a3,_⟩:=oappx Tryz.underlying82 inf_Ext Ext_zero sz_Ext rfl Tryz.underlying82 (fun _=>rfl) Ext_bytes (M0:=M) rfl i1 i2 (qu _) (by rw[UX];omega) (by omega) x 8
    exact⟨(N1,V'),⟨a2,by rw[E];exact a3⟩,a1⟩
  refine⟨fun j=>if j=n+1 then I else sq j,by simp[h0],fun i hi=>?_,fun i o' hi ho'=>?_⟩
  ·by_cases e:i=n+1
   ·subst e;simpa using U
   ·simp only[e,if_false];exact h1 i (by omega)
  ·by_cases e:i=n
   ·subst e
    rw[Y]at ho';cases ho'
    simpa using O
   ·have e1:¬i=n+1:=by omega
    have e2:¬i+1=n+1:=by omega
    simp only[e1,e2,if_false]
    exact h2 i o' (by omega) ho'
def esOf(D:Dep):List (Option Ext):=D.kept++D.opn.map fun o=>o.map Rec.x
theorem esOf_places(D:Dep):(esOf D).filterMap id=D.places:=by
 unfold esOf Dep.places Qs
 rw[List.filterMap_append]
 congr 1
 induction D.opn with
 |nil=>rfl
 |cons o r ih=>cases o<;>simp_all
theorem Qq(M:Mem)(N:List (Option Blk))(b:Nat)(x:Blk)(h:M.get b=some x):(M.app N).get b=some x:=by
 have hl:=Mem.get_lt h
 unfold Mem.size at hl
 unfold Mem.get at h ⊢
 unfold Mem.app
 simp only
 rw[qt hl]
 exact h
theorem places_exact(P p q g:Nat)(d:Dsk)(D:Dep)(M:Mem)(h:DepAt M P p q g d D):
 ∃V N,Abs.Spec qc 33 [.pointer (some ⟨P,0,none⟩)] M (fun u M'=>u=V∧M'=M.app N)∧N.all ZK=true∧Vy M.size (M.app N) V D.places:=by
 have aw:(esOf D).length=12:=by unfold esOf;rw[qp,List.length_map,h.ok.kept,h.ok.opn]
 obtain⟨E,ac,af,ad⟩:=chainE M (esOf D) (by omega) 12 (by omega)
 have I:=af 12 (qu _)
 unfold InvE at I
 rw[qD (by omega),esOf_places]at I
 refine⟨(E 12).2,(E 12).1,?_,I.1,I.2⟩
 have an:∀(i:Nat) o,D.kept[i]?=some o→(esOf D)[i]?=some o:=fun i o hi=>by
  unfold esOf
  rw[qt (qf.1 hi).1];exact hi
 have am:∀(i:Nat) o,D.opn[i]?=some o→(esOf D)[8+i]?=some (o.map Rec.x):=fun i o hi=>by
  unfold esOf
  rw[qk (by rw[h.ok.kept];omega),h.ok.kept,Nat.add_sub_cancel_left,List.getElem?_map,hi];rfl
 have U:∀N b x,M.get b=some x→(M.app N).get b=some x:=fun N b x=>Qq M N b x
 refine K5 Tryz.func33 Tryz.results33 Tryz.ntmps33 fun hc hx k=>?_
 obtain⟨s,vo,vk,Z,ho,hk⟩:=h.row
 have l4:vo.length=4:=by rw[ho.len,h.ok.opn]
 have l8:vk.length=8:=by rw[hk.len,h.ok.kept]
 have rk:=row_kept s p D l4 l8
 have ro:=row_opn s p D l4 l8
 have z9:∀i:Nat,i<100→IntKind.i64.wrap ((i:Int)+1)=((i+1:Nat):Int):=fun i hi=>by rw[Xn (by omega) (by omega)];omega
 have eM:M=M.app (E 0).1:=by rw[ac];simp[Mem.app]
 have eV:(Value.slice none 0 0)=(E 0).2:=by rw[ac]
 have O:=U (E 0).1 _ _ Z
 refine J0 (R0 ?_)
 refine J0 (R0 ?_)
 rw[eM,eV]
 refine QB (fun f M'=>f=[(0,.pointer (some ⟨P,0,none⟩)),(3,(E 8).2)]∧M'=M.app (E 8).1) ?_ ?_
 ·refine J0 (R2 @O @rk ?_)
  refine J7 (Jr (fun j f M'=>∃(i:Nat),j=8-i∧f=[(0,.pointer (some ⟨P,0,none⟩)),(3,(E (i)).2),(11,.agg vk.toArray),(12,.int .i64 (i:Nat))]∧i≤8∧M'=M.app (E (i)).1) 8 ?_ ?_)
  ·refine JK [0,3,11,12] ?_
   exact⟨_,tR _,0,rfl,rfl,by omega,rfl⟩
  ·rintro j f M' ⟨i,rfl,rfl,hi,rfl⟩
   refine J0 (R0 ?_)
   refine J0 (CC (decide ((i:Int)<8)) (fun hq=>J3 ?_) (fun hq=>Jn ?_))
   ·have a6:=of_decide_eq_true hq
    obtain⟨o,Y⟩:∃o,D.kept[i]?=some o:=⟨_,qj (by rw[h.ok.kept];omega)⟩
    obtain⟨v,hv,hp⟩:=hk.at_ i o Y
    have ix:=ix_A8 l8 hv
    have w9:=z9 i (by omega)
    have st:=ad i o (by omega) (an i o Y)
    simp only[zZ,reduceIte,yQ,yW,yX,yZ,yJ,yK,yV]
    refine J0 (J7 (J0 (R1 @ix ?_)))
    refine J0 (J1 ?_)
    cases o with
    |none=>
     obtain rfl:v=.pointer none:=hp
     have e1:E (i+1)=E (i):=st
     refine S0 ?_
     refine CF (J3 ?_)
     simp only[zZ,reduceIte,yQ,yW,yX,yZ,yJ,yK,yV]
     refine R1 @w9 ?_
     refine JK [0,3,11,12] ?_
     exact⟨_,tR _,8-(i+1),⟨i+1,rfl,by rw[e1],by omega,by rw[e1]⟩,by omega⟩
    |some x=>
     obtain⟨b,s',hb,rfl,gb⟩:=hp
     have a2:=U (E i).1 _ _ gb
     have rx:Ju 8 0 (some (.cells false s' x.cells))=some (.agg x.cells.toArray):=rfl
     have nw:=new_ext1 x
     have a7:JT qc ((M.app (E (i)).1).push (.cells false 8 x.cells)) 82 82 (E (i)).2 (.slice (some ⟨(M.app (E (i)).1).size,0,none⟩) 1 1)=some ((E (i+1)).2,M.app (E (i+1)).1):=st
     refine S0 ?_
     refine CT (R4 @a2 @rx @nw @a7 ?_)
     refine R1 @w9 ?_
     refine JK [0,3,11,12] ?_
     exact⟨_,tR _,8-(i+1),⟨i+1,rfl,rfl,by omega,rfl⟩,by omega⟩
   ·have a6:=of_decide_eq_false hq
    obtain rfl:i=8:=by omega
    refine JK [0,3] ?_
    exact⟨_,tR _,rfl⟩
 rintro _ _ ⟨rfl,rfl⟩
 have O:=U (E 8).1 _ _ Z
 refine QB (fun f M'=>f=[(3,(E 12).2)]∧M'=M.app (E 12).1) ?_ ?_
 ·refine J0 (R2 @O @ro ?_)
  refine J7 (Jr (fun j f M'=>∃(i:Nat),j=4-i∧f=[(0,.pointer (some ⟨P,0,none⟩)),(3,(E (8+i)).2),(27,.agg vo.toArray),(28,.int .i64 (i:Nat))]∧i≤4∧M'=M.app (E (8+i)).1) 4 ?_ ?_)
  ·refine JK [0,3,27,28] ?_
   exact⟨_,tR _,0,rfl,rfl,by omega,rfl⟩
  ·rintro j f M' ⟨i,rfl,rfl,hi,rfl⟩
   refine J0 (R0 ?_)
   refine J0 (CC (decide ((i:Int)<4)) (fun hq=>J3 ?_) (fun hq=>Jn ?_))
   ·have a6:=of_decide_eq_true hq
    obtain⟨o,Y⟩:∃o,D.opn[i]?=some o:=⟨_,qj (by rw[h.ok.opn];omega)⟩
    obtain⟨v,hv,hp⟩:=ho.at_ i o Y
    have ix:=ix_A4 l4 hv
    have w9:=z9 i (by omega)
    have st:=ad (8+i) (o.map Rec.x) (by omega) (am i o Y)
    simp only[zZ,reduceIte,yQ,yW,yX,yZ,yJ,yK,yV]
    refine J0 (J7 (J0 (R1 @ix ?_)))
    refine J0 (J1 ?_)
    cases o with
    |none=>
     obtain rfl:v=.pointer none:=hp
     have e1:E (8+i+1)=E (8+i):=st
     refine S0 ?_
     refine CF (J3 ?_)
     simp only[zZ,reduceIte,yQ,yW,yX,yZ,yJ,yK,yV]
     refine R1 @w9 ?_
     refine JK [0,3,27,28] ?_
     exact⟨_,tR _,4-(i+1),⟨i+1,rfl,by rw[←Nat.add_assoc,e1],by omega,by rw[←Nat.add_assoc,e1]⟩,by omega⟩
    |some x=>
     obtain⟨b,s',hb,rfl,gb⟩:=hp
     have a2:=U (E (8+i)).1 _ _ gb
     have rx:Ju 8 0 (some (.cells false s' x.cells))=some (.agg x.x.cells.toArray):=rfl
     have nw:=new_ext1 x.x
     have a7:JT qc ((M.app (E (8+i)).1).push (.cells false 8 x.x.cells)) 82 82 (E (8+i)).2 (.slice (some ⟨(M.app (E (8+i)).1).size,0,none⟩) 1 1)=some ((E (8+i+1)).2,M.app (E (8+i+1)).1):=st
     refine S0 ?_
     refine CT (R4 @a2 @rx @nw @a7 ?_)
     refine R1 @w9 ?_
     refine JK [0,3,27,28] ?_
     exact⟨_,tR _,4-(i+1),⟨i+1,rfl,rfl,by omega,rfl⟩,by omega⟩
   ·have a6:=of_decide_eq_false hq
    obtain rfl:i=4:=by omega
    refine JK [3] ?_
    exact⟨_,tR _,rfl⟩
 rintro _ _ ⟨rfl,rfl⟩
 refine J0 (R0 ?_)
 refine T0 ?_
 exact⟨_,tR _,by rw[←eM]⟩
end Go.Proofs.YthohbneadomgdaaGreatDoor
namespace Go.Proofs.YthohbneadomgdaaGreatDoor.Abs
open Go Go.RowKit
section
variable [Defs]
theorem SW_drawG{P:Program}{n:Nat}{Q:Exit→AL→Mem→Prop}{f:AL}{m:Mem}{id:Nat}{ops:Array Oper}(hmix:P.follows .mixedOrders=true)(q:Nat)(hq:Ql ops q=true)(hqs:Nat.ble q ops.size=true)
 (h:Ul P n ops.toList m (fun f' M=>sOps P n ops.toList (Q .normal) (ops.toList.drop q) f' M) false (ops.toList.take q) f m):SW P n (.region id ops true) Q f m:=by
 intro a U
 have hqs:=Nat.le_of_ble_eq_true hqs
 obtain⟨vs,I,f',E,h2,Y,O,_⟩:=sHead_runG 0 (fun _=>undef) (fun _=>[]) (a₀:=a) (m₀:=m) (QZ hq) hqs (ops.toList.take q) 0 [] [] false f m (fun j=>by rw[List.getElem?_take,Array.getElem?_toList,qA]) (by omega) rfl rfl U (by simp[Js,Q8])
  (fun _ j=>by simp[JL]) (fun j hj=>by omega) (fun i o _ hi=>by omega) (fun i o _ hi=>by omega) (qu _) (fun j hj=>by omega) h
 exact AW_draw hmix q hq hqs (JZ vs) (JL I) (fun i o hi ho=>O i o (Nat.zero_le _) hi ho) (Ve (fun f m a E h2=>⟨f,E,h2⟩) _ f' _ _ E h2)
def sPhG(P:Program)(n:Nat)(all:List Oper)(K:AL→Mem→Prop):List (Nat×Nat)→Nat→AL→Mem→Prop
 | [],_,f,M=>K f M
 |(q,b')::r,b,f,M=>Ul P n all M (fun f1 M1=>sOps P n all (fun f2 M2=>sPhG P n all K r b' f2 M2) ((all.drop q).take (b'-q)) f1 M1) false ((all.drop b).take (q-b)) f M
theorem sPhG_from{P:Program}{n:Nat}{ops:Array Oper}{Q:Exit→AL→Mem→Prop}:∀(l:List (Nat×Nat))(b:Nat)(f:AL)(M:Mem)(a:List Value),phasesOK ops l b=true→Knows n f a→sPhG P n ops.toList (Q .normal) l b f M→
 From P ops (fun e a' m'=>∃f',Knows n f' a'∧Q e f' m') b a M
 | [],b,f,M,a,hok,hf,h=>From_end (Nat.le_of_ble_eq_true hok) ⟨f,hf,h⟩
 |(q,b')::r,b,f,M,a,hok,hf,h=>by
  simp only[phasesOK,Bool.and_eq_true]at hok
  obtain⟨hok,hrest⟩:=hok
  obtain⟨hho,hseq,hbar,hbq,hqb,hb'⟩:=phaseOK_spec hok
  have hid:∀k,k<b→JZ ((qI b).map (idV ops a)) k=idV ops a k:=fun k hk=>by
   unfold JZ
   rw[List.getElem?_map,List.getElem?_range hk];rfl
  have hnil:∀k,JL (qd b []) k=[]:=fun k=>by
   unfold JL
   rw[qm]
   split<;>rfl
  obtain⟨vs,Ns,f',h1,h2,h3,h4,h5,h6⟩:=sHead_runG b (idV ops a) (fun _=>[]) (a₀:=a) (m₀:=M) hho (by omega) ((ops.toList.drop b).take (q-b)) b ((qI b).map (idV ops a)) (qd b []) false f M
   (fun j=>by
    rw[List.getElem?_take,List.getElem?_drop,Array.getElem?_toList]
    by_cases hj:b+j<q
    ·rw[if_pos (by omega),if_pos hj]
    ·rw[if_neg (by omega),if_neg hj]) hbq (by simp) (by simp)
   (by rw[frameAt_id b fun k hk _=>hid k hk];exact hf)
   (by
    unfold Js
    have:∀i,Q8 (JL (qd b [])) allS i=[]:=by
     intro i
     induction i with
     |zero=>rfl
     |succ i ih=>simp[Q8,ih,hnil]
    rw[this,List.append_nil])
   (fun _ j=>hnil j) (fun j hj=>by rw[hnil];rfl) (fun i o hi hi2=>by omega) (fun i o hi hi2=>by omega) (qu _) (fun j hj=>⟨hid j hj,hnil j⟩) h
  refine From_phase (v:=JZ vs) (N:=JL Ns) hok (fun k hk=>(h6 k hk).1) (fun k hk=>(h6 k hk).2) h4 ?_
  refine Ve (fun f2 M2 a2 g1 g2=>?_) _ f' _ _ h1 h2
  exact sPhG_from r b' f2 M2 a2 hrest g1 g2
theorem SW_drawnG{P:Program}{n:Nat}{Q:Exit→AL→Mem→Prop}{f:AL}{m:Mem}{id:Nat}{ops:Array Oper}(hmix:P.follows .mixedOrders=true)(l:List (Nat×Nat))(hok:phasesOK ops l 0=true)
 (h:sPhG P n ops.toList (Q .normal) l 0 f m):SW P n (.region id ops true) Q f m:=fun a ha=>AW_from hmix (sPhG_from l 0 f m a hok ha h)
end
section
def Xh(P:Program)(n:Nat)(all:List Oper) [K:Box (AL→Mem→Prop)]:List (Nat×Nat)→Nat→AL→Mem→Prop
 | [],_,f,M=>K.k f M
 |(q,b')::r,b,f,M=>@JA P n all M ⟨fun f1 M1=>@sOpsB P n all ⟨fun f2 M2=>Xh P n all r b' f2 M2⟩ ((all.drop q).take (b'-q)) f1 M1⟩ ((all.drop b).take (q-b)) false f M
theorem sPhGB_eq(P:Program)(n:Nat)(all:List Oper)(K:AL→Mem→Prop):∀(l:List (Nat×Nat))(b:Nat)(f:AL)(M:Mem),@Xh P n all ⟨K⟩ l b f M=sPhG P n all K l b f M
 | [],_,_,_=>rfl
 |(q,b')::r,b,f,M=>by
  have:(fun f2 M2=>@Xh P n all ⟨K⟩ r b' f2 M2)=(fun f2 M2=>sPhG P n all K r b' f2 M2):=funext fun f2=>funext fun M2=>sPhGB_eq P n all K r b' f2 M2
  exact congrArg (fun G=>@JA P n all M ⟨fun f1 M1=>@sOpsB P n all ⟨G⟩ ((all.drop q).take (b'-q)) f1 M1⟩ ((all.drop b).take (q-b)) false f M) this
variable {P : Program} {n k : Nat} {f : AL} {m : Mem} {Q : Exit → AL → Mem → Prop}
theorem CW_drawG{id:Nat}{ops:Array Oper}(hmix:P.follows .mixedOrders=true)(q:Nat)(hq:Ql ops q=true)(hqs:Nat.ble q ops.size=true)
 (h:@JA P n ops.toList m ⟨fun f' M=>@sOpsB P n ops.toList ⟨Q .normal⟩ (ops.toList.drop q) f' M⟩ (ops.toList.take q) false f m):@CW P n k ⟨.region id ops true⟩ ⟨Q⟩ f m:=.of_SW (SW_drawG hmix q hq hqs h)
theorem CW_drawnG{id:Nat}{ops:Array Oper}(hmix:P.follows .mixedOrders=true)(l:List (Nat×Nat))(hok:phasesOK ops l 0=true)
 (h:@Xh P n ops.toList ⟨Q .normal⟩ l 0 f m):@CW P n k ⟨.region id ops true⟩ ⟨Q⟩ f m:=.of_SW (SW_drawnG hmix l hok (by rw[←sPhGB_eq];exact h))
theorem Jx(M:Mem):M.app []=M:=by simp[Mem.app]
theorem JS:(!([]:List (Option Blk)).isEmpty)=false:=rfl
end
end Go.Proofs.YthohbneadomgdaaGreatDoor.Abs
namespace Go.Proofs.YthohbneadomgdaaGreatDoor
open Go.RowKit Abs
theorem at0{P:Program}{k:FuncId}{xs:List Value}{m:Mem}{v:Value}(h:Abs.Spec P k xs m fun u M=>u=v∧M=m):Abs.Spec P k xs m fun u M=>u=v∧M=m.app []:=
 h.mono fun _ _ h=>by rw[Jx];exact h
theorem fits_spec(P p q g:Nat)(d:Dsk)(D:Dep)(M:Mem)(h:DepAt M P p q g d D)(hkey:D.key.length≤1000000)(x:Ext)(hm:JE x=true):
 Abs.Spec qc 44 [.pointer (some ⟨P,0,none⟩),.agg x.cells.toArray] M fun u M'=>u=.bool (Z3 D.key d.old.length D.places x)∧More M M':=by
 have hn:=h.dsk.ok.n
 obtain⟨ac,aq,al⟩:=Ki hm
 have ak:=Vq ac
 refine K5 Tryz.func44 Tryz.results44 Tryz.ntmps44 fun hc hx k=>?_
 have bx:QO qc 85 (.agg x.cells.toArray)=some (.cells false (J6 qc 85) x.cells):=Kv _ rfl
 generalize J6 qc 85=s1 at bx
 have row:Ju 7 0 (some (.cells false s1 x.cells))=some (.agg x.head.cells.toArray):=rfl
 have k7:cellIn 7 (some (.cells false s1 x.cells))=some (.int .i64 x.base):=rfl
 have k2:cellIn 2 (some (.cells false s1 x.cells))=some (.int .i64 x.head.n):=rfl
 obtain⟨O,U⟩:∃O,O=M.push (.cells false s1 x.cells):=⟨_,rfl⟩
 obtain⟨b3,a6⟩:∃b,b=M.size:=⟨_,rfl⟩
 have mo:More M O:=by rw[U];exact More.push _ _
 have g3:O.get b3=some (.cells false s1 x.cells):=by rw[U,a6,Mem.get_push_new]
 have h1:=h.same mo.get
 obtain⟨s,vo,vk,E,ho,hk⟩:=h1.row
 have c0:cellIn 0 (some (.cells false s (JW p D vo vk)))=some (dp p):=rfl
 have c1:cellIn 1 (some (.cells false s (JW p D vo vk)))=some (.string (str D.key)):=rfl
 have w1:IntKind.i64.wrap (x.base+x.head.n)=x.base+x.head.n:=Xn (by omega) (by omega)
 obtain⟨r,I⟩:∃r,r=Z3 D.key d.old.length D.places x:=⟨_,rfl⟩
 rw[←I]
 unfold Z3 at I
 refine J0 (R1 @bx ?_)
 rw[←U,←a6]
 refine J0 (J1 ?_)
 simp only[zZ,reduceIte,yQ,yW,yX,yZ,yJ,yK,yV,zDk,Jc,Jb,J9,J8,Xx,vFunc]
 refine J0 (CW_drawG hmix 31 (by kernel_rfl) (by kernel_rfl) ?_)
 simp only[zZ,reduceIte,yQ,yW,yX,yZ,yJ,yK,yV,JA,Q3,Qo,isVal,sGuardedV,Jx,JS,zDk,Jc,Jb,J9,J8,Xx,E,c1,g3,row]
 refine⟨by kernel_rfl,_,[],at0 (hverify_at D.key (by omega) x.head _),rfl,?_⟩
 have e1:(x.head.verify D.key==0)=decide (x.head.verify D.key=0):=by rw[Bool.eq_iff_iff];simp
 cases p1:(x.head.verify D.key==0)with
 |false=>
  rw[e1]at p1
  rw[p1]at I
  rw[←e1]at p1
  simp only[zZ,reduceIte,yQ,yW,yX,yZ,yJ,yK,yV,JA,Q3,Qo,isVal,sGuardedV,Jx,JS,zDk,Jc,Jb,J9,J8,Xx,E,c1,g3,row,p1]
  refine QC ?_
  simp only[zZ,reduceIte,yQ,yW,yX,yZ,yJ,yK,yV,JA,Q3,Qo,isVal,sGuardedV,Jx,JS,zDk,Jc,Jb,J9,J8,Xx,mEnd,sAnswer,sAnswer.sRes]
  exact⟨_,tR _,by rw[I];rfl,mo⟩
 |true=>
  rw[e1]at p1
  rw[p1]at I
  rw[←e1]at p1
  cases p2:decide (x.base≥13)with
  |false=>
   have Y:decide (13≤x.base)=false:=p2
   rw[Y]at I
   simp only[zZ,reduceIte,yQ,yW,yX,yZ,yJ,yK,yV,JA,Q3,Qo,isVal,sGuardedV,Jx,JS,zDk,Jc,Jb,J9,J8,Xx,E,c1,g3,row,p1,k7,p2]
   refine QC ?_
   simp only[zZ,reduceIte,yQ,yW,yX,yZ,yJ,yK,yV,JA,Q3,Qo,isVal,sGuardedV,Jx,JS,zDk,Jc,Jb,J9,J8,Xx,mEnd,sAnswer,sAnswer.sRes]
   exact⟨_,tR _,by rw[I];rfl,mo⟩
  |true=>
   have Y:decide (13≤x.base)=true:=p2
   rw[Y]at I
   simp only[zZ,reduceIte,yQ,yW,yX,yZ,yJ,yK,yV,JA,Q3,Qo,isVal,sGuardedV,Jx,JS,zDk,Jc,Jb,J9,J8,Xx,E,c1,g3,row,p1,k7,p2,k2,w1,c0]
   refine⟨by kernel_rfl,_,[],at0 (dlen_spec _ p q g d h1.dsk),rfl,?_⟩
   cases p3:decide (x.base+x.head.n≤(d.old.length:Int))with
   |false=>
    rw[p3]at I
    simp only[zZ,reduceIte,yQ,yW,yX,yZ,yJ,yK,yV,JA,Q3,Qo,isVal,sGuardedV,Jx,JS,zDk,Jc,Jb,J9,J8,Xx,p3]
    refine QC ?_
    simp only[zZ,reduceIte,yQ,yW,yX,yZ,yJ,yK,yV,JA,Q3,Qo,isVal,sGuardedV,Jx,JS,zDk,Jc,Jb,J9,J8,Xx,mEnd,sAnswer,sAnswer.sRes]
    exact⟨_,tR _,by rw[I];rfl,mo⟩
   |true=>
    rw[p3]at I
    simp only[zZ,reduceIte,yQ,yW,yX,yZ,yJ,yK,yV,JA,Q3,Qo,isVal,sGuardedV,Jx,JS,zDk,Jc,Jb,J9,J8,Xx,p3]
    obtain⟨V,N,pe,pN,Z⟩:=places_exact P p q g d D O h1
    have a7:More O (O.app N):=⟨fun b x hb=>Qq O N b x hb,by rw[UX];omega⟩
    refine⟨by kernel_rfl,_,N,pe,pN,?_⟩
    simp only[zZ,reduceIte,yQ,yW,yX,yZ,yJ,yK,yV,JA,Q3,Qo,isVal,sGuardedV,Jx,JS,zDk,Jc,Jb,J9,J8,Xx]
    refine⟨by kernel_rfl,_,anyother_spec x hm b3 s1 _ _ V D.places Z (fun y hy=>fit_may (h.ok.fit y hy) hn) ?_ (a7.get _ _ g3),?_⟩
    ·unfold Dep.places Qs
     have h2:=qB id D.kept
     have h3:=qB id D.opn
     rw[h.ok.kept]at h2
     rw[h.ok.opn]at h3
     rw[qp,List.length_map];omega
    rintro _ M3 ⟨rfl,ae⟩
    simp only[zZ,reduceIte,yQ,yW,yX,yZ,yJ,yK,yV,JA,Q3,Qo,isVal,sGuardedV,Jx,JS,zDk,Jc,Jb,J9,J8,Xx]
    refine QC ?_
    simp only[zZ,reduceIte,yQ,yW,yX,yZ,yJ,yK,yV,JA,Q3,Qo,isVal,sGuardedV,Jx,JS,zDk,Jc,Jb,J9,J8,Xx,mEnd,sAnswer,sAnswer.sRes]
    exact⟨_,tR _,by rw[I];rfl,(mo.trans a7).trans ae⟩
theorem keys_spec(secret salt:ByteArray)(h1:secret.size≤140737488355000)(h2:salt.size≤140737488355000)(m:Mem):
 Abs.Spec qc 41 [.string secret,.string salt] m fun u M=>u=keysV secret.data.toList salt.data.toList∧M=m:=
 Abs.Spec.of_flat (by simp[flat]) rfl fun w=>keys_any secret salt w h1 h2
theorem Z0(s:List UInt8):(Sha.headKey s).length=32:=by
 have E:∀k info:List UInt8,Sha.expand k info 32=(Sha.tag k (info++[1])).take 32:=fun _ _=>rfl
 rw[Sha.headKey,E,qF,Sha.tag_length]
 decide
theorem encKey_len32(s t:List UInt8):(Sha.encKey s t).length=32:=by
 have E:∀k info:List UInt8,Sha.expand k info 32=(Sha.tag k (info++[1])).take 32:=fun _ _=>rfl
 rw[Sha.encKey,E,qF,Sha.tag_length]
 decide
theorem macKey_len32(s t:List UInt8):(Sha.macKey s t).length=32:=by
 have E:∀k info:List UInt8,Sha.expand k info 32=(Sha.tag k (info++[1])).take 32:=fun _ _=>rfl
 rw[Sha.macKey,E,qF,Sha.tag_length]
 decide
theorem read_at{d:Dsk}{i:Nat}(hi:i<d.old.length):d.read (i:Int)=if d.dead=true then([],7)else(d.sector i,0):=by
 unfold Dsk.read Dsk.may
 by_cases h:d.dead=true
 ·rw[if_pos h,if_pos h];rfl
 ·have h2:¬((i:Int)<0∨(d.old.length:Int)≤(i:Int)):=by omega
  simp only[if_neg h,if_neg h2,if_true,qi]
theorem sector_len{d:Dsk}(hok:d.Ok){i:Nat}(hi:i<d.old.length):(d.sector i).length=256:=(Dsk.poss_lt hok (Dsk.poss_sector hi)).2
theorem catTake_may{s:List UInt8}(h:(Xf s).2=0):JE (Xf s).1=true:=by
 unfold Xf at h ⊢
 split at h
 ·cases h
 ·rename_i h1
  rw[if_neg h1]
  split at h
  ·cases h
  ·rename_i h2
   rw[if_neg h2]
   split at h
   ·cases h
   ·rename_i h3
    rw[if_neg h3]
    simp only[not_or]at h3
    simpa using h3.2
theorem mayExt_n{x:Ext}(h:JE x=true):0≤x.head.n:=by
 have:=Vq (Ki h).1
 omega
theorem jouTake_may{s:List UInt8}(h:(QR s).2=0):JE (QR s).1.x=true∧((QR s).1.got.length:Int)=(QR s).1.x.head.n:=by
 unfold QR at h ⊢
 split at h
 ·cases h
 ·rename_i h1
  rw[if_neg h1]
  split at h
  ·cases h
  ·rename_i h2
   rw[if_neg h2]
   split at h
   ·cases h
   ·rename_i h3
    rw[if_neg h3]
    simp only[not_or]at h3
    have E:JE ⟨(Vg (str (QL s 4 98))).1,(Sha.num (QL s 102 2):Nat)⟩=true:=by simpa using h3.2.1
    refine⟨E,?_⟩
    have I:=mayExt_n E
    simp only at I
    simp only
    rw[setTake_len (by simpa using h3.2.2)]
    omega
theorem places_none(k:List (Option Ext))(n:Nat):Qs k (qd n none)=Qs k []:=by
 unfold Qs
 rw[show(qd n (none:Option Rec)).filterMap id=[] by induction n with|zero=>rfl|succ n ih=>rw[List.replicate_succ];simpa using ih]
 rfl
theorem Uq(d:Dsk)(key:List UInt8):∀k j,k≤j→j<8→(Jp d key k)[j]?=some none
 |0,j,_,hj=>by
  show(qd 8 (none:Option Ext))[j]?=_
  rw[qm,if_pos hj]
 |k+1,j,hk,hj=>by
  rw[Jp,qx (by omega)]
  exact Uq d key k j (by omega) hj
theorem set_same{α:Type}{l:List α}{i:Nat}{x:α}(h:l[i]?=some x):l.set i x=l:=by
 apply List.ext_getElem?
 intro j
 by_cases e:i=j
 ·subst e
  rw[qw (qf.1 h).1,h]
 ·rw[qx e]
theorem fits_fitX{key:List UInt8}{n:Nat}{l:List Ext}{x:Ext}(h:Z3 key n l x=true):fitX key n x:=by
 unfold Z3 at h
 simp only[Bool.and_eq_true,decide_eq_true_eq]at h
 exact⟨h.1.1.1,h.1.1.2,h.1.2⟩
def Dep.fresh(key:List UInt8):Dep:=⟨key,0,qd 4 none,qd 8 none,0⟩
theorem ptrs_none{α:Type}(enc:α→List Value)(K:List Nat)(M:Mem)(n:Nat):PtrsAt enc K M (qd n none) (qd n (.pointer none)):=
 ⟨by simp,fun i o h=>by
  rw[qm]at h
  split at h
  ·rename_i hi
   cases h
   exact⟨.pointer none,by rw[qm,if_pos hi],rfl⟩
  ·cases h⟩
theorem fresh_ok(key:List UInt8)(n:Nat):(Dep.fresh key).Ok n:=
 ⟨by simp[Dep.fresh],by simp[Dep.fresh],fun r h=>by simp[Dep.fresh]at h,fun r h=>by simp[Dep.fresh]at h⟩
theorem depC_setE(p:Nat)(D:Dep)(vo vk:List Value)(n:Int):(JW p D vo vk).set 2 (.int .i64 n)=JW p { D with epoch:=n } vo vk:=rfl
theorem DepAt.turnE{M:Mem}{P p q g:Nat}{d:Dsk}{D:Dep}(h:DepAt M P p q g d D){s:Nat}{vo vk:List Value}(ho:PtrsAt Rec.cells [P,p,q,g] M D.opn vo)(hk:PtrsAt Ext.cells [P,p,q,g] M D.kept vk)
 (hrow:M.get P=some (.cells false s (JW p D vo vk))) (n:Int):
 DepAt (M.set P (some (.cells false s ((JW p D vo vk).set 2 (.int .i64 n))))) P p q g d { D with epoch:=n }:=by
 have E:Only [P] M (M.set P (some (.cells false s ((JW p D vo vk).set 2 (.int .i64 n))))):=Only.set (by simp) _
 refine⟨h.dsk.only E (by simp;exact Ne.symm h.ne.1) (by simp;exact Ne.symm h.ne.2.1) (by simp;exact Ne.symm h.ne.2.2),⟨h.ok.opn,h.ok.kept,h.ok.fitO,h.ok.fitK⟩,⟨s,vo,vk,?_,ho.only E (by simp),hk.only E (by simp)⟩,h.ne⟩
 rw[Mem.get_set_same hrow,depC_setE]
theorem nextE_len(d:Dsk)(i:Int):(d.nextE i).1.old.length=d.old.length:=by
 unfold Dsk.nextE
 split
 ·rfl
 ·split
  ·rfl
  ·split
   ·exact QM _ _ _
   ·split
    ·exact(sync_len _).trans (QM _ _ _)
    ·exact(sync_len _).trans (QM _ _ _)
theorem opn_stick{key:List UInt8}{K:List (Option Ext)}{d:Dsk}{k:Nat}(h:(Jl key K d k).2.2≠0):∀n,k≤n→Jl key K d n=Jl key K d k:=by
 intro n E
 induction n with
 |zero=>obtain rfl:k=0:=by omega
        rfl
 |succ n ih=>
  by_cases e:k=n+1
  ·rw[e]
  ·have:=ih (by omega)
   show(if(Jl key K d n).2.2≠0 then Jl key K d n else Xd key K (Jl key K d n).1 (Jl key K d n).2.1 n)=_
   rw[this,if_pos h]
theorem lastV_text(k:Nat)(h1:1≤k)(h2:k≤4294967295):lastV (Jg (Jm k))=((k:Int),0):=by
 have hl:(Jm (k:Int)).length=8:=by unfold Jm;rw[qp,Sha.fixed_length];rfl
 have U:((Jg (Jm (k:Int))).drop 4).take 4=Sha.fixed (k:Int) 4:=by
  have:=Zk (s:=Jm (k:Int)) (a:=4) (n:=4) (by omega)
  unfold QL at this
  rw[this]
  unfold Jm
  rw[List.drop_left' (show markE.length=4 from rfl),qD (by rw[Sha.fixed_length];omega)]
 have E:JN ((Jg (Jm (k:Int))).drop 8)=[]:=by
  rw[UC,←hl];exact filled_tail
 have I:Lib.hasPrefix (Jg (Jm (k:Int))) markE=true:=by
  unfold Jg Jm
  rw[List.append_assoc]
  simp[Lib.hasPrefix,markE]
 have O:Sha.num (Sha.fixed (k:Int) 4)=k:=by rw[num_fixed];exact Nat.mod_eq_of_lt (by omega)
 unfold lastV
 rw[if_pos I,U,E,O,if_neg (by simp;omega)]
theorem Zb:JN zeroS=[]:=by decide+kernel
theorem new_sector(n i:Nat)(hi:i<n):(Q9 n).sector i=zeroS:=by
 unfold Dsk.sector Q9
 simp only[Jt,List.find?_nil,Option.map_none,Option.getD_none,qm,if_pos hi,Option.getD_some]
theorem last_zeroS:lastV zeroS=(0,0):=by decide+kernel
theorem new_len(n:Nat):(Q9 n).old.length=n:=by simp[Q9]
theorem new_may(n i:Nat)(hi:i<n):(Q9 n).may (i:Int)=0:=by
 unfold Dsk.may
 rw[if_neg (by simp[Q9]),if_neg (by rw[new_len];omega)]
def JQ(n:Nat):Dsk:=⟨Jg (Jm 1)::qd (n-1) zeroS,[],1, -1,false⟩
theorem next_new(n:Nat)(h1:1≤n)(h2:n≤1024):(Q9 n).nextE 0=(JQ n,1,0):=by
 have U:=new_len n
 have hw:(Q9 n).write 0 (Jm 1)=(((Q9 n).burnt.put 0 (Jg (Jm 1))),0):=by
  have hl:(Jm 1).length=8:=by decide+kernel
  unfold Dsk.write
  rw[if_neg (by rw[show(Q9 n).may 0=0 from new_may n 0 (by omega)];simp),if_neg (by omega),if_neg (by show¬((-1:Int)=0);decide)]
  rfl
 obtain⟨D,Y⟩:∃D,D=(Q9 n).burnt.put 0 (Jg (Jm 1)):=⟨_,rfl⟩
 have E:D=⟨qd n zeroS,[(0,Jg (Jm 1),0)],1, -1,false⟩:=by rw[Y];rfl
 have hs:D.sync=(JQ n,0):=by
  unfold Dsk.sync
  have Z:D.may 0=0:=by
   rw[E]
   unfold Dsk.may
   rw[if_neg (by simp),if_neg (by simp;omega)]
  have O:D.burnt=D:=by rw[E];rfl
  rw[if_neg (by rw[Z];simp),if_neg (by rw[E];show¬((-1:Int)=0);decide),O,E]
  unfold Dsk.synced JQ
  simp only[Prod.mk.injEq,Dsk.mk.injEq,and_true]
  obtain⟨k,rfl⟩:∃k,n=k+1:=⟨n-1,by omega⟩
  rw[List.replicate_succ,List.mapIdx_cons,Nat.add_sub_cancel]
  congr 1
  apply List.ext_getElem?
  intro i
  rw[List.getElem?_mapIdx,qm]
  split
  ·simp[Jt]
  ·rfl
 have I:(Q9 n).lastE 0=(0,0):=by
  unfold Dsk.lastE
  rw[if_pos (show(Q9 n).may 0=0 from new_may n 0 (by omega)),new_sector n _ (by show 0<n;omega),last_zeroS]
 unfold Dsk.nextE
 rw[I]
 simp only[show((0:Int)+1)=1 from rfl,hw,←Y,hs,ne_eq,not_true_eq_false,if_false]
 rw[if_neg (by decide)]
theorem kept_blank{d:Dsk}{key:List UInt8}(h:∀i,i<8→JN (d.sector (5+i))=[]):∀k,k≤8→Jp d key k=qd 8 none
 |0,_=>rfl
 |k+1,hk=>by
  rw[Jp,kept_blank h k (by omega)]
  have:XJ d key (qd 8 none) k=none:=by
   unfold XJ
   rw[Ut (h k (by omega)),if_neg (by simp)]
  rw[this]
  exact set_same (by rw[qm,if_pos (by omega)])
theorem opn_blank{d:Dsk}{key:List UInt8}{K:List (Option Ext)}(h:∀i,i<4→JN (d.sector (1+i))=[]):∀k,k≤4→Jl key K d k=(d,qd 4 none,0)
 |0,_=>rfl
 |k+1,hk=>by
  show(if(Jl key K d k).2.2≠0 then Jl key K d k else Xd key K (Jl key K d k).1 (Jl key K d k).2.1 k)=_
  rw[opn_blank h k (by omega),if_neg (by simp)]
  unfold Xd
  rw[V6 (h k (by omega)),if_neg (by simp),if_neg (by simp)]
theorem open_new(n:Nat)(h1:13≤n)(h2:n≤1024)(key:List UInt8):openD (Q9 n) key=(JQ n,some ⟨key,1,qd 4 none,qd 8 none,0⟩,0):=by
 have I:Jp (Q9 n) key 8=qd 8 none:=kept_blank (fun i hi=>by rw[new_sector n _ (by omega)];exact Zb) 8 (qu _)
 have E:Jl key (qd 8 none) (Q9 n) 4=(Q9 n,qd 4 none,0):=opn_blank (fun i hi=>by rw[new_sector n _ (by omega)];exact Zb) 4 (qu _)
 unfold openD
 rw[if_neg (by rw[new_len];omega),if_neg (by simp[Q9]),I,E,next_new n (by omega) h2]
 rfl
end Go.Proofs.YthohbneadomgdaaGreatDoor
namespace Go.Proofs.YthohbneadomgdaaGreatDoor
open Go.RowKit
theorem rfixed_i(n k:Int)(h0:0≤n)(hn:n<4611686018427387904)(hk1:0≤k)(hk:k≤8)(w:World):
 Calls qc 165 #[.int .i64 n,.int .i64 k] w fun e w'=>e=.returned (.string (str (Sha.fixed n k.toNat)))∧Below w.heap.size w w':=by
 obtain⟨k,rfl⟩:=Int.eq_ofNat_of_zero_le hk1
 obtain⟨n,rfl⟩:=Int.eq_ofNat_of_zero_le h0
 rw[qi]
 exact rfixed_any n k (by omega) (by omega) w
end Go.Proofs.YthohbneadomgdaaGreatDoor
