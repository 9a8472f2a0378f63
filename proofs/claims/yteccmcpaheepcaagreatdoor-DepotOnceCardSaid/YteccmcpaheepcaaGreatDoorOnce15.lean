/-
  The walks of the document's answer for layer 18: a header's bytes.
-/
import Derived.Test.YteccmcpaheepcaaGreatDoorOnce12
import Derived.Orders
import Derived.Test.YteccmcpaheepcaaGreatDoorOnce09
import Derived.Test.YteccmcpaheepcaaGreatDoorOnce14
import Derived.Test.YteccmcpaheepcaaGreatDoorOnce10
import Derived.Test.YteccmcpaheepcaaGreatDoorOnce03
import Derived.Test.YteccmcpaheepcaaGreatDoorOnce13
import Derived.Test.YteccmcpaheepcaaGreatDoorOnce01
import Derived.Lib.FrozenHead2
import Derived.Laws.IdiomStrings
import Derived.Test.YteccmcpaheepcaaGreatDoorOnce02
import Derived.Deep.QuietTactic
import Derived.BigQuiet
set_option linter.unusedSimpArgs false
set_option linter.unusedVariables false
set_option linter.unusedSectionVars false
set_option linter.unnecessarySimpa false
set_option linter.defProp false
set_option maxRecDepth 100000
set_option maxHeartbeats 16000000
open Nat renaming reduceLT → yQ, reduceEqDiff → yK, reduceAdd → yV, reduceSub → yY, reduceMul → yU
open Int renaming reduceToNat → yW, reduceLE → yX, reduceEq → yZ, reduceLT → yJ
open Go.Proofs.Tryz renaming prog → qc, underlying31 → qm
open List renaming replicate → qd, getElem?_eq_getElem → qf, length_replicate → qh, filter_cons_of_pos → qi, length_append → qk, replicate_succ' → qo, length_set → qp, length_map → qq, pairwise_cons → qr
open Int renaming toNat_natCast → qe
open Nat renaming le_refl → qj
namespace Go.Proofs.YteccmcpaheepcaaGreatDoor
open Go.RowKit
theorem rfixed_i(n k:Int)(h0:0≤n)(hn:n<4611686018427387904)(hk1:0≤k)(hk:k≤8)(w:World):
 Calls qc 144 #[.int .i64 n,.int .i64 k] w fun e w'=>e=.returned (.string (str (Sha.fixed n k.toNat)))∧Below w.heap.size w w':=by
 obtain⟨k,rfl⟩:=Int.eq_ofNat_of_zero_le hk1
 obtain⟨n,rfl⟩:=Int.eq_ofNat_of_zero_le h0
 rw[qe]
 exact rfixed_any n k (by omega) (by omega) w
end Go.Proofs.YteccmcpaheepcaaGreatDoor
namespace Go.Proofs.YteccmcpaheepcaaGreatDoor.Stab
section
variable {α : Type} (key : α → Int)
def Rising(l:List α):Prop:=l.Pairwise fun a b=>key a≤key b
def Xd(k:Int)(l:List α):List α:=l.filter fun a=>key a==k
structure Stable(l r:List α):Prop where
 rising:Rising key r
 keys:∀k,Xd key k r=Xd key k l
 len:r.length=l.length
theorem Xq(k:Int)(a b:List α):Xd key k (a++b)=Xd key k a++Xd key k b:=List.filter_append ..
theorem Xr{k:Int}{l:List α}{a:α}:a∈Xd key k l↔a∈l∧key a=k:=by
 unfold Xd;rw[List.mem_filter,beq_iff_eq]
theorem ofKey_nil_of{k:Int}{l:List α}(h:∀a∈l,key a≠k):Xd key k l=[]:=by
 unfold Xd
 rw[List.filter_eq_nil_iff]
 intro a ha
 rw[beq_iff_eq]
 exact h a ha
theorem Stable.mem{l r:List α}(h:Stable key l r)(a:α):a∈r↔a∈l:=by
 constructor
 ·intro ha
  have:a∈Xd key (key a) r:=(Xr key).2 ⟨ha,rfl⟩
  rw[h.keys]at this
  exact((Xr key).1 this).1
 ·intro ha
  have:a∈Xd key (key a) l:=(Xr key).2 ⟨ha,rfl⟩
  rw[←h.keys]at this
  exact((Xr key).1 this).1
theorem Stable.refl{l:List α}(h:Rising key l):Stable key l l:=⟨h,fun _=>rfl,rfl⟩
theorem Stable.of_keys{a b c:List α}(h:∀k,Xd key k b=Xd key k a)(hl:b.length=a.length)(g:Stable key b c):Stable key a c:=⟨g.rising,fun k=>(g.keys k).trans (h k),g.len.trans hl⟩
theorem rising_unique:∀{r r':List α},Rising key r→Rising key r'→(∀k,Xd key k r=Xd key k r')→r=r'
 | [],r',_,_,h=>by
   cases r' with
   |nil=>rfl
   |cons b t=>
    have:=h (key b)
    have hb:b∈Xd key (key b) (b::t):=(Xr key).2 ⟨by simp,rfl⟩
    rw[←this]at hb
    cases hb
 |a::r,r',h1,h2,h=>by
  cases r' with
  |nil=>
   have:=h (key a)
   have ha:a∈Xd key (key a) (a::r):=(Xr key).2 ⟨by simp,rfl⟩
   rw[this]at ha
   cases ha
  |cons b t=>
   have h1':=qr.1 h1
   have h2':=qr.1 h2
   have kab:key a=key b:=by
    have ha:a∈Xd key (key a) (b::t):=by rw[←h];exact(Xr key).2 ⟨by simp,rfl⟩
    have hb:b∈Xd key (key b) (a::r):=by rw[h];exact(Xr key).2 ⟨by simp,rfl⟩
    have ha:=((Xr key).1 ha).1
    have hb:=((Xr key).1 hb).1
    have e1:key b≤key a:=by
     rcases List.mem_cons.1 ha with rfl|ha
     ·exact Int.le_refl _
     ·exact h2'.1 a ha
    have e2:key a≤key b:=by
     rcases List.mem_cons.1 hb with rfl|hb
     ·exact Int.le_refl _
     ·exact h1'.1 b hb
    omega
   have hab:a=b∧Xd key (key a) r=Xd key (key a) t:=by
    have:=h (key a)
    unfold Xd at this
    rw[qi (by simp),qi (by simp[kab])]at this
    exact⟨(List.cons.inj this).1,(List.cons.inj this).2⟩
   obtain⟨rfl,_⟩:=hab
   congr 1
   refine rising_unique h1'.2 h2'.2 fun k=>?_
   have:=h k
   unfold Xd at this ⊢
   by_cases hk:key a=k
   ·rw[qi (by simp[hk]),qi (by simp[hk])]at this
    exact(List.cons.inj this).2
   ·rw[List.filter_cons_of_neg (by simp[hk]),List.filter_cons_of_neg (by simp[hk])]at this
    exact this
theorem Stable.unique{l r r':List α}(h:Stable key l r)(h':Stable key l r'):r=r':=rising_unique key h.rising h'.rising fun k=>(h.keys k).trans (h'.keys k).symm
theorem Rising.app{a b:List α}(ha:Rising key a)(hb:Rising key b)(h:∀x∈a,∀y∈b,key x≤key y):Rising key (a++b):=List.pairwise_append.2 ⟨ha,hb,h⟩
theorem Rising.parts{a b:List α}(h:Rising key (a++b)):Rising key a∧Rising key b∧∀x∈a,∀y∈b,key x≤key y:=List.pairwise_append.1 h
theorem ofKey_swap{a b:List α}(h:∀x∈a,∀y∈b,key x≠key y)(k:Int):Xd key k (a++b)=Xd key k (b++a):=by
 rw[Xq,Xq]
 by_cases ha:∃x∈a,key x=k
 ·obtain⟨x,hx,rfl⟩:=ha
  have hb:Xd key (key x) b=[]:=ofKey_nil_of key fun y hy e=>h x hx y hy e.symm
  rw[hb,List.nil_append,List.append_nil]
 ·have ha:Xd key k a=[]:=ofKey_nil_of key fun x hx e=>ha ⟨x,hx,e⟩
  rw[ha,List.nil_append,List.append_nil]
theorem Kg{y:α}{x1 x2:List α}(hx:Rising key (x1++x2))(h1:∀x∈x1,key x≤key y)(h2:∀x∈x2,key y<key x):Stable key (x1++x2++[y]) (x1++y::x2):=by
 obtain⟨a,b,c⟩:=Rising.parts key hx
 refine⟨Rising.app key a (qr.2 ⟨fun z hz=>Int.le_of_lt (h2 z hz),b⟩) fun z hz w hw=>?_,fun k=>?_,by simp<;>omega⟩
 ·rcases List.mem_cons.1 hw with rfl|hw
  ·exact h1 z hz
  ·exact c z hz w hw
 ·have:=ofKey_swap key (a:=x2) (b:=[y]) (fun z hz w hw e=>by simp only[List.mem_singleton]at hw;subst hw;have:=h2 z hz;omega) k
  rw[show x1++y::x2=x1++([y]++x2) by simp,List.append_assoc,Xq,←this,←Xq]
end
end Go.Proofs.YteccmcpaheepcaaGreatDoor.Stab
namespace Go.Proofs.YteccmcpaheepcaaGreatDoor
open Go.RowKit Abs
theorem setL_in:∀(a b c:List Value),b.length≤c.length→setL (a++c) a.length b=a++b++c.drop b.length
 | [],[],c,_=>by simp[setL]
 |a,x::b,[],h=>by simp at h
 |a,[],c,_=>by simp[setL]
 |a,x::b,y::c,h=>by
  have ih:=setL_in (a++[x]) b c (by simpa using h)
  rw[setL]
  have e:(a++y::c).set a.length x=(a++[x])++c:=by simp
  rw[e]
  simp only[qk,List.length_cons,List.length_nil]at ih
  rw[ih]
  simp
theorem split_at{α:Type}{xs:List α}{k:Nat}{x:α}(hx:xs[k]?=some x):∃P Q,xs=P++x::Q∧P.length=k:=by
 obtain⟨h1,h2⟩:=List.getElem?_eq_some_iff.1 hx
 refine⟨xs.take k,xs.drop (k+1),?_,by rw[List.length_take];omega⟩
 rw[←h2,List.getElem_cons_drop,List.take_append_drop]
theorem set_mid{α:Type}(P Q:List α)(x y:α):(P++x::Q).set P.length y=P++y::Q:=by
 rw[List.set_append_right _ _ (qj _),Nat.sub_self,List.set_cons_zero]
theorem putIn_at{α:Type}{n:Nat}{f:α→List Value}{xs:List α}(hl:∀x∈xs,(f x).length=n){k:Nat}{x:α}(hx:xs[k]?=some x)(y:α)(hy:(f y).length=n)(ho:Jn (f y)=true)(m:Mem)(g s:Nat):
 Ji n m g (k*n) (f y) (some (.cells false s (xs.flatMap f)))=some (m.set g (some (.cells false s ((xs.set k y).flatMap f)))):=by
 obtain⟨P,Q,rfl,rfl⟩:=split_at hx
 rw[set_mid]
 have hP:(P.flatMap f).length=P.length*n:=flatMap_len f n P fun x hx=>hl x (by simp[hx])
 have hxl:(f x).length=n:=hl x (by simp)
 unfold Ji
 simp only[List.flatMap_append,List.flatMap_cons]
 rw[if_pos ⟨hy,by simp only[qk];omega,ho⟩,←hP]
 rw[setL_in _ _ _ (by simp only[qk];omega),hy,←hxl,List.drop_left,List.append_assoc]
theorem Abs.Sl.len{m:Mem}{v:Value}{xs:List Value}(h:Sl m v xs):∃a,v=.slice a xs.length xs.length:=by
 rcases h with⟨rfl,rfl⟩|⟨g,rfl,_⟩
 ·exact⟨none,rfl⟩
 ·exact⟨_,rfl⟩
theorem rfilled_at(s:List UInt8)(hs:s.length≤256)(m:Mem):Abs.Spec qc 131 [.string (str s)] m fun u M=>u=.string (str (Jh s))∧M=m:=by
 refine Abs.Spec.of_empty (by intro x hx;simp at hx;subst hx;rfl) rfl ?_ m
 have hbs:JA (str s)=s.length:=rfl
 have nb:=Un s (by omega)
 refine WM Tryz.func131 Tryz.results131 Tryz.ntmps131 fun _=>?_
 refine J0 (R0 ?_)
 refine J0 (R2 @nb @hbs ?_)
 have h0:Sl ((⟨[]⟩:Mem).push (.cells false 1 (J5 s))) (.slice (some ⟨(⟨[]⟩:Mem).size,0,none⟩) s.length s.length) (J5 (s++qd 0 0)):=by
  rw[List.replicate_zero,List.append_nil]
  exact Sl.block (by simp[J5]) (Mem.get_push_new _ _)
 refine J0 (J8 (Jt (fun j f m'=>∃(i:Nat)(v:Value),j=256-s.length-i∧f=[(3,v)]∧i≤256-s.length∧Sl m' v (J5 (s++qd i 0))∧Grows ⟨[]⟩ m'∧(∀g l c,v=.slice (some ⟨g,0,none⟩) l c→(⟨[]⟩:Mem).size≤g)) (256-s.length) ?_ ?_))
 ·refine JK [3] ?_
  exact⟨_,Thin.refl _,0,_,rfl,rfl,by omega,h0,(Grows.refl _).push _,fun g l c e=>by cases e;exact qj _⟩
 ·rintro j f m' ⟨i,v,rfl,rfl,hi,hv,hgr,hnew⟩
  have hl:(J5 (s++qd i 0)).length=s.length+i:=by simp[J5]
  obtain⟨a,hva⟩:=hv.len
  rw[hl]at hva
  subst hva
  refine J0 (J0 (R0 ?_))
  refine CC (decide (((s.length+i:Nat):Int)<256)) (fun hq=>J3 ?_) (fun hq=>Jp ?_)
  ·have hq:=of_decide_eq_true hq
   obtain⟨s',m2,happ,hs',hgr',hnew'⟩:=hv.app_u8 hgr hnew (.int .u8 0) (by rw[hl];omega)
   rw[show J5 (s++qd i 0)++[.int .u8 0]=J5 (s++qd (i+1) 0) by
    rw[qo,←List.append_assoc]
    simp[J5,Jy]]at hs'
   have nu:=new_u8 0
   refine S0 ?_
   refine J8 (R2 @nu @happ ?_)
   refine JK [3] ?_
   exact⟨_,Thin.refl _,256-s.length-(i+1),⟨i+1,s',rfl,rfl,by omega,hs',hgr',hnew'⟩,by omega⟩
  ·have hq:=of_decide_eq_false hq
   obtain⟨g,hg1,hg⟩:=hv.at (by rw[hl];omega)
   rw[hl]at hg1
   cases hg1
   have hi2:s.length+i=256:=by omega
   have e2:Xs qc m'.get 110 9 (.slice (some ⟨g,0,none⟩) (s.length+i) (s.length+i))=some (.string (str (s++qd i 0))):=to_str hg (by simp)
   rw[show s++qd i 0=Jh s by unfold Jh;congr 2;omega]at e2
   refine S0 ?_
   refine J0 (R1 @e2 ?_)
   refine T0 ?_
   first|exact⟨_,Thin.refl _,rfl⟩|exact⟨_,Thin.refl _⟩|exact⟨_,Thin.refl _,rfl,rfl⟩
theorem zeroS_eq:Jh []=zeroS:=rfl
theorem zero_len:zeroS.length=256:=qh
theorem zeros_at(m:Mem):Abs.Spec qc 248 [.string (str zeroS)] m fun u M=>u=.bool true∧M=m:=by
 have hbs:JA (str zeroS)=256:=zero_len
 refine WM Tryz.func248 Tryz.results248 Tryz.ntmps248 fun _=>?_
 refine J0 (R0 ?_)
 refine J0 (J0 (R0 ?_))
 refine J8 (Jt (fun j f m'=>∃i:Nat,j=256-i∧f=[(0,.string (str zeroS)),(3,.int .i64 (i:Nat))]∧i≤256∧m'=m) 256 ?_ ?_)
 ·refine JK [0,3] ?_
  exact⟨_,Thin.refl _,0,rfl,rfl,by omega,rfl⟩
 ·rintro j f m' ⟨i,rfl,rfl,hi,e9⟩
  replace e9:=e9.symm;subst e9
  refine J0 (J0 (R1 @hbs ?_))
  refine CC (decide ((i:Int)<((256:Nat):Int))) (fun hq=>J3 ?_) (fun hq=>Jp ?_)
  ·have hq:=of_decide_eq_true hq
   have ix:=index_str (str zeroS) (i:Nat) i rfl (by rw[str_size,zero_len];omega)
   have iz:(str zeroS).data.toList.getD i 0=0:=by
    show zeroS.getD i 0=0
    unfold zeroS
    rw[List.getD_eq_getElem?_getD,List.getElem?_replicate]
    split<;>rfl
   rw[iz]at ix
   have w1:IntKind.i64.wrap ((i:Int)+1)=((i+1:Nat):Int):=by rw[Xl (by omega) (by omega)];omega
   have q0:((((0:UInt8).toNat:Nat):Int) !=0)=false:=rfl
   refine S0 ?_
   refine J0 (J8 (J0 (R2 @ix @q0 ?_)))
   refine CF (J3 ?_)
   refine S0 ?_
   refine R1 @w1 ?_
   refine JK [0,3] ?_
   exact⟨_,Thin.refl _,256-(i+1),⟨i+1,rfl,rfl,by omega,rfl⟩,by omega⟩
  ·refine S0 ?_
   refine J0 (R0 ?_)
   refine T0 ?_
   first|exact⟨_,Thin.refl _,rfl⟩|exact⟨_,Thin.refl _⟩|exact⟨_,Thin.refl _,rfl,rfl⟩
theorem rcat_at(m:Mem):Abs.Spec qc 183 [.string (str zeroS)] m fun u M=>u=.tuple #[.agg noExt.cells.toArray,.int .i64 8]∧M=m:=by
 refine Abs.Spec.of_empty (by intro x hx;simp at hx;subst hx;rfl) rfl ?_ m
 have hal:Qd qc 102=some (.cells false (J6 qc 102) noExt.cells):=al_Ext
 generalize J6 qc 102=s1 at hal
 have hbd0:Qo qc 102 []=some (.agg noExt.cells.toArray):=by kernel_rfl
 have row8:∀x:Ext,Jv 8 0 (some (.cells false s1 x.cells))=some (.agg x.cells.toArray):=fun _=>rfl
 have agg8:∀x:Ext,(Value.agg x.cells.toArray).cells.toList=x.cells:=fun _=>rfl
 have put8:∀(M0:Mem)(b:Nat)(x y:Ext),Ji 8 M0 b 0 y.cells (some (.cells false s1 x.cells))=some (M0.set b (some (.cells false s1 y.cells))):=fun _ _ _ _=>rfl
 obtain⟨M1,hM1⟩:∃M1:Mem,M1=(⟨[]⟩:Mem).push (.cells false s1 noExt.cells):=⟨_,rfl⟩
 obtain⟨b2,hb2⟩:∃b,b=(⟨[]⟩:Mem).size:=⟨_,rfl⟩
 have g2:M1.get b2=some (.cells false s1 noExt.cells):=by rw[hM1,hb2,Mem.get_push_new]
 have g3:(M1.set b2 (some (.cells false s1 noExt.cells))).get b2=some (.cells false s1 noExt.cells):=Mem.get_set_same g2 _
 refine WM Tryz.func183 Tryz.results183 Tryz.ntmps183 fun _=>?_
 refine J0 (R1 @hal ?_)
 rw[←hM1,←hb2]
 refine J0 (J0 (R0 ?_))
 refine K0 (zeros_at _) ?_
 refine CT (J0 (R4 @hbd0 @g2 @agg8 @put8 ?_))
 refine T3 @Q9 @g3 @row8 ?_
 first|exact⟨_,Thin.refl _,rfl⟩|exact⟨_,Thin.refl _⟩|exact⟨_,Thin.refl _,rfl,rfl⟩
theorem rjou_at(m:Mem):Abs.Spec qc 185 [.string (str zeroS)] m fun u M=>u=.tuple #[.agg noExt.cells.toArray,.slice none 0 0,.int .i64 8]∧M=m:=by
 refine Abs.Spec.of_empty (by intro x hx;simp at hx;subst hx;rfl) rfl ?_ m
 have hal:Qd qc 102=some (.cells false (J6 qc 102) noExt.cells):=al_Ext
 generalize J6 qc 102=s1 at hal
 have hbd0:Qo qc 102 []=some (.agg noExt.cells.toArray):=by kernel_rfl
 have row8:∀x:Ext,Jv 8 0 (some (.cells false s1 x.cells))=some (.agg x.cells.toArray):=fun _=>rfl
 have agg8:∀x:Ext,(Value.agg x.cells.toArray).cells.toList=x.cells:=fun _=>rfl
 have put8:∀(M0:Mem)(b:Nat)(x y:Ext),Ji 8 M0 b 0 y.cells (some (.cells false s1 x.cells))=some (M0.set b (some (.cells false s1 y.cells))):=fun _ _ _ _=>rfl
 obtain⟨M1,hM1⟩:∃M1:Mem,M1=(⟨[]⟩:Mem).push (.cells false s1 noExt.cells):=⟨_,rfl⟩
 obtain⟨b2,hb2⟩:∃b,b=(⟨[]⟩:Mem).size:=⟨_,rfl⟩
 have g2:M1.get b2=some (.cells false s1 noExt.cells):=by rw[hM1,hb2,Mem.get_push_new]
 have l2:=Mem.get_lt g2
 obtain⟨M2,hM2⟩:∃M2,M2=(M1.push (.cells false s1 noExt.cells)).set M1.size (some (.cells false s1 noExt.cells)):=⟨_,rfl⟩
 have g5:M2.get M1.size=some (.cells false s1 noExt.cells):=by rw[hM2];exact Mem.get_set_same (Mem.get_push_new _ _) _
 have g2':M2.get b2=some (.cells false s1 noExt.cells):=by rw[hM2,Mem.get_set_ne (by omega),Mem.get_push_old l2];exact g2
 have g3:(M2.set b2 (some (.cells false s1 noExt.cells))).get b2=some (.cells false s1 noExt.cells):=Mem.get_set_same g2' _
 refine WM Tryz.func185 Tryz.results185 Tryz.ntmps185 fun _=>?_
 refine J0 (R1 @hal ?_)
 rw[←hM1,←hb2]
 refine J0 (R5 @hal @hbd0 @Mem.get_push_new @agg8 @put8 ?_)
 rw[←hM2]
 refine J0 (J0 (R0 ?_))
 refine K0 (zeros_at _) ?_
 refine CT (J0 (R5 @g5 @row8 @g2' @agg8 @put8 ?_))
 refine T3 @Q9 @g3 @row8 ?_
 first|exact⟨_,Thin.refl _,rfl⟩|exact⟨_,Thin.refl _⟩|exact⟨_,Thin.refl _,rfl,rfl⟩
def UB(s:List UInt8):Value:=.string (str s)
def Strs(M:Mem)(b n:Nat):Prop:=∃L:List (List UInt8),L.length=n∧M.get b=some (.cells false 1 (L.map UB))
def Flags(M:Mem)(b n:Nat):Prop:=∃F:List Bool,F.length=n∧M.get b=some (.cells false 1 (F.map Value.bool))
def Us(b n:Nat):Value:=.slice (some ⟨b,0,none⟩) n n
structure RW(M:Mem)(e n bO bL bF:Nat):Prop where
 row:∃s,M.get e=some (.cells false s [Us bO n,Us bL n,Us bF n,.int .i64 (-1),.bool false])
 old:Strs M bO n
 last:Strs M bL n
 fresh:Flags M bF n
theorem put_map{α:Type}(f:α→Value)(hf:∀x,Jn [f x]=true){L:List α}{i:Nat}(hi:i<L.length)(x:α)(M:Mem)(b s:Nat):Ji 1 M b i [f x] (some (.cells false s (L.map f)))=some (M.set b (some (.cells false s ((L.set i x).map f)))):=by
 have:=putIn_at (n:=1) (f:=fun a=>[f a]) (xs:=L) (k:=i) (fun _ _=>rfl) (qf hi) x rfl (hf x) M b s
 rw[Xm,Xm,Nat.mul_one]at this
 exact this
theorem cell_map{α:Type}{f:α→Value}{L:List α}{i:Nat}{x:α}(hx:L[i]?=some x)(ro:Bool)(s:Nat):cellIn i (some (.cells ro s (L.map f)))=some (f x):=by
 simp only[cellIn,List.getElem?_map,hx,Option.map_some]
section
variable {M : Mem} {e n bO bL bF : Nat}
theorem RW.strs(h:RW M e n bO bL bF)(hn:0<n){b:Nat}(hb:Strs M b n){L:List (List UInt8)}(hl:L.length=n):RW (M.set b (some (.cells false 1 (L.map UB)))) e n bO bL bF:=by
 have ks:∀c,Strs M c n→Strs (M.set b (some (.cells false 1 (L.map UB)))) c n:=fun c hc=>by
  by_cases q:b=c
  ·subst q
   obtain⟨_,_,hg⟩:=hb
   exact⟨L,hl,Mem.get_set_same hg _⟩
  ·obtain⟨L',h1,h2⟩:=hc
   exact⟨L',h1,by rw[Mem.get_set_ne q];exact h2⟩
 obtain⟨L0,hl0,hg0⟩:=hb
 obtain⟨x,r,rfl⟩:∃x r,L0=x::r:=by
  cases L0 with
  |nil=>simp at hl0;omega
  |cons x r=>exact⟨x,r,rfl⟩
 refine⟨?_,ks _ h.old,ks _ h.last,?_⟩
 ·obtain⟨s,hs⟩:=h.row
  refine⟨s,?_⟩
  rw[Mem.get_set_ne (fun q=>by rw[q,hs]at hg0;cases hg0)]
  exact hs
 ·obtain⟨F,hF,hg⟩:=h.fresh
  refine⟨F,hF,?_⟩
  rw[Mem.get_set_ne (fun q=>?_)]
  ·exact hg
  ·rw[q,hg]at hg0
   cases F with
   |nil=>simp at hF;omega
   |cons y t=>simp[UB]at hg0
theorem RW.flags(h:RW M e n bO bL bF)(hn:0<n){F:List Bool}(hl:F.length=n):RW (M.set bF (some (.cells false 1 (F.map Value.bool)))) e n bO bL bF:=by
 obtain⟨F0,hF0,hg0⟩:=h.fresh
 obtain⟨x,r,rfl⟩:∃x r,F0=x::r:=by
  cases F0 with
  |nil=>simp at hF0;omega
  |cons x r=>exact⟨x,r,rfl⟩
 have ks:∀c,Strs M c n→Strs (M.set bF (some (.cells false 1 (F.map Value.bool)))) c n:=fun c hc=>by
  obtain⟨L',h1,h2⟩:=hc
  refine⟨L',h1,?_⟩
  rw[Mem.get_set_ne (fun q=>?_)]
  ·exact h2
  ·rw[q,h2]at hg0
   cases L' with
   |nil=>simp at h1;omega
   |cons y t=>simp[UB]at hg0
 refine⟨?_,ks _ h.old,ks _ h.last,⟨F,hl,Mem.get_set_same hg0 _⟩⟩
 obtain⟨s,hs⟩:=h.row
 refine⟨s,?_⟩
 rw[Mem.get_set_ne (fun q=>by rw[q,hs]at hg0;cases hg0)]
 exact hs
theorem RW.same{M':Mem}(h:RW M e n bO bL bF)(hs:∀b x,M.get b=some x→M'.get b=some x):RW M' e n bO bL bF:=by
 obtain⟨⟨s,h1⟩,⟨L,h2,h3⟩,⟨L',h4,h5⟩,⟨F,h6,h7⟩⟩:=h
 exact⟨⟨s,hs _ _ h1⟩,⟨L,h2,hs _ _ h3⟩,⟨L',h4,hs _ _ h5⟩,⟨F,h6,hs _ _ h7⟩⟩
def RB(M:Mem)(e n bO bL bF:Nat):Prop:=RW M e n bO bL bF∧M.get bL=some (.cells false 1 ((qd n zeroS).map UB))
theorem RB.same{M':Mem}(h:RB M e n bO bL bF)(hs:∀b x,M.get b=some x→M'.get b=some x):RB M' e n bO bL bF:=⟨h.1.same hs,hs _ _ h.2⟩
theorem rread_at(h:RB M e n bO bL bF)(hn:n≤1024)(i:Nat)(hi:i<n):Abs.Spec qc 179 [.pointer (some ⟨e,0,none⟩),.int .i64 (i:Nat)] M fun u M'=>u=.tuple #[.string (str zeroS),.int .i64 0]∧M'=M:=by
 obtain⟨⟨⟨s,hr⟩,_,_,_⟩,hL⟩:=h
 have c0:cellIn 0 (some (.cells false s [Us bO n,Us bL n,Us bF n,.int .i64 (-1),.bool false]))=some (.slice (some ⟨bO,0,none⟩) n n):=rfl
 have c1:cellIn 1 (some (.cells false s [Us bO n,Us bL n,Us bF n,.int .i64 (-1),.bool false]))=some (.slice (some ⟨bL,0,none⟩) n n):=rfl
 have c4:cellIn 4 (some (.cells false s [Us bO n,Us bL n,Us bF n,.int .i64 (-1),.bool false]))=some (.bool false):=rfl
 have cz:cellIn i (some (.cells false 1 ((qd n zeroS).map UB)))=some (.string (str zeroS)):=cell_map (by rw[List.getElem?_replicate,if_pos hi]) false 1
 have q1:decide ((i:Int)<0)=false:=decide_eq_false (by omega)
 have q2:decide ((i:Int)≥(n:Int))=false:=decide_eq_false (by omega)
 have z0:(0:Int)≤(i:Int):=by omega
 have z1:(i:Int)<(n:Int):=by omega
 refine WM Tryz.func179 Tryz.results179 Tryz.ntmps179 fun _=>?_
 refine J0 (R0 ?_)
 refine J0 (J0 (R2 @hr @c4 ?_))
 refine CF (J3 ?_)
 refine S0 ?_
 refine J0 (J0 (R4 @q1 @hr @c0 @q2 ?_))
 refine CF (J3 ?_)
 refine S0 ?_
 refine J0 (R8 @hr @c1 @z0 @z1 @and_self @hL @qe @cz ?_)
 refine T0 ?_
 first|exact⟨_,Thin.refl _,rfl⟩|exact⟨_,Thin.refl _⟩|exact⟨_,Thin.refl _,rfl,rfl⟩
theorem rburn_at(h:RW M e n bO bL bF):Abs.Spec qc 180 [.pointer (some ⟨e,0,none⟩)] M fun u M'=>u=.bool true∧M'=M:=by
 obtain⟨s,hr⟩:=h.row
 have c3:cellIn 3 (some (.cells false s [Us bO n,Us bL n,Us bF n,.int .i64 (-1),.bool false]))=some (.int .i64 (-1)):=rfl
 have q1:((-1:Int)==0)=false:=rfl
 have q2:decide ((-1:Int)>0)=false:=rfl
 refine WM Tryz.func180 Tryz.results180 Tryz.ntmps180 fun _=>?_
 refine J0 (R0 ?_)
 refine J0 (J0 (R3 @hr @c3 @q1 ?_))
 refine CF (J3 ?_)
 refine S0 ?_
 refine J0 (J0 (R3 @hr @c3 @q2 ?_))
 refine CF (J3 ?_)
 refine S0 ?_
 refine J0 (R0 ?_)
 refine T0 ?_
 first|exact⟨_,Thin.refl _,rfl⟩|exact⟨_,Thin.refl _⟩|exact⟨_,Thin.refl _,rfl,rfl⟩
theorem rwrite_at(h:RW M e n bO bL bF)(hn0:0<n)(hn:n≤1024)(i:Nat)(hi:i<n)(t:List UInt8)(ht:t.length≤256):Abs.Spec qc 95 [.pointer (some ⟨e,0,none⟩),.int .i64 (i:Nat),.string (str t)] M fun u M'=>u=.int .i64 0∧RW M' e n bO bL bF∧Only [bO,bL,bF] M M'∧M'.size=M.size:=by
 obtain⟨s,hr⟩:=h.row
 obtain⟨L,hLl,hL⟩:=h.last
 have c0:cellIn 0 (some (.cells false s [Us bO n,Us bL n,Us bF n,.int .i64 (-1),.bool false]))=some (.slice (some ⟨bO,0,none⟩) n n):=rfl
 have c1:cellIn 1 (some (.cells false s [Us bO n,Us bL n,Us bF n,.int .i64 (-1),.bool false]))=some (.slice (some ⟨bL,0,none⟩) n n):=rfl
 have c2:∀s,cellIn 2 (some (.cells false s [Us bO n,Us bL n,Us bF n,.int .i64 (-1),.bool false]))=some (.slice (some ⟨bF,0,none⟩) n n):=fun _=>rfl
 have c4:cellIn 4 (some (.cells false s [Us bO n,Us bL n,Us bF n,.int .i64 (-1),.bool false]))=some (.bool false):=rfl
 have hbs:JA (str t)=t.length:=rfl
 have q1:decide ((i:Int)<0)=false:=decide_eq_false (by omega)
 have q2:decide ((i:Int)≥(n:Int))=false:=decide_eq_false (by omega)
 have q3:decide ((t.length:Int)>256)=false:=decide_eq_false (by omega)
 have z0:(0:Int)≤(i:Int):=by omega
 have z1:(i:Int)<(n:Int):=by omega
 have hput:Ji 1 M bL i [.string (str (Jh t))] (some (.cells false 1 (L.map UB)))=some (M.set bL (some (.cells false 1 ((L.set i (Jh t)).map UB)))):=put_map UB (fun _=>rfl) (by omega) (Jh t) M bL 1
 obtain⟨M1,hM1⟩:∃M1,M1=M.set bL (some (.cells false 1 ((L.set i (Jh t)).map UB))):=⟨_,rfl⟩
 have h1:RW M1 e n bO bL bF:=by rw[hM1];exact h.strs hn0 h.last (by rw[qp];exact hLl)
 obtain⟨s1,hr1⟩:=h1.row
 obtain⟨F,hFl,hF⟩:=h1.fresh
 have hputF:Ji 1 M1 bF i [.bool true] (some (.cells false 1 (F.map Value.bool)))=some (M1.set bF (some (.cells false 1 ((F.set i true).map Value.bool)))):=put_map Value.bool (fun _=>rfl) (by omega) true M1 bF 1
 have aggS:(Value.string (str (Jh t))).cells.toList=[.string (str (Jh t))]:=rfl
 have aggB:(Value.bool true).cells.toList=[.bool true]:=rfl
 refine WM Tryz.func95 Tryz.results95 Tryz.ntmps95 fun _=>?_
 refine J0 (R0 ?_)
 refine J0 (J0 (R2 @hr @c4 ?_))
 refine CF (J3 ?_)
 refine S0 ?_
 refine J0 (J0 (R4 @q1 @hr @c0 @q2 ?_))
 refine CF (J3 ?_)
 refine S0 ?_
 refine J0 (J0 (R2 @hbs @q3 ?_))
 refine CF (J3 ?_)
 refine S0 ?_
 refine J0 (J0 (R0 ?_))
 refine K0 (rburn_at h) ?_
 refine CF (J3 ?_)
 refine S0 ?_
 refine J0 (D2 7 @hr @c1 ?_)
 refine⟨by kernel_rfl,_,rfilled_at t ht _,?_⟩
 refine⟨by decide,?_⟩
 refine S7 @z0 @z1 @and_self @qe @hL @aggS @hput ?_
 rw[←hM1]
 refine J0 (R9 @hr1 @c2 @z0 @z1 @and_self @qe @hF @aggB @hputF ?_)
 refine J0 (R0 ?_)
 refine T0 ?_
 exact⟨_,Thin.refl _,h1.flags hn0 (by rw[qp];exact hFl),((by rw[hM1];exact Only.set (by simp) _):Only [bO,bL,bF] M M1).trans (Only.set (by simp) _),by rw[Mem.size_set,hM1,Mem.size_set]⟩
theorem rsync_at(h:RW M e n bO bL bF)(hn0:0<n)(hn:n≤1024):Abs.Spec qc 128 [.pointer (some ⟨e,0,none⟩)] M fun u M'=>u=.int .i64 0∧RW M' e n bO bL bF∧Only [bO,bL,bF] M M'∧M'.size=M.size:=by
 obtain⟨s,hr⟩:=h.row
 have c0:∀s,cellIn 0 (some (.cells false s [Us bO n,Us bL n,Us bF n,.int .i64 (-1),.bool false]))=some (.slice (some ⟨bO,0,none⟩) n n):=fun _=>rfl
 have c1:∀s,cellIn 1 (some (.cells false s [Us bO n,Us bL n,Us bF n,.int .i64 (-1),.bool false]))=some (.slice (some ⟨bL,0,none⟩) n n):=fun _=>rfl
 have c2:∀s,cellIn 2 (some (.cells false s [Us bO n,Us bL n,Us bF n,.int .i64 (-1),.bool false]))=some (.slice (some ⟨bF,0,none⟩) n n):=fun _=>rfl
 have c4:∀s,cellIn 4 (some (.cells false s [Us bO n,Us bL n,Us bF n,.int .i64 (-1),.bool false]))=some (.bool false):=fun _=>rfl
 have aggB:(Value.bool false).cells.toList=[.bool false]:=rfl
 refine WM Tryz.func128 Tryz.results128 Tryz.ntmps128 fun _=>?_
 refine J0 (R0 ?_)
 refine J0 (J0 (R2 @hr @c4 ?_))
 refine K0 (rburn_at h) ?_
 refine CF (J3 ?_)
 refine S0 ?_
 refine J0 (J0 (R0 ?_))
 refine J8 (Jt (fun j f M'=>∃i:Nat,j=n-i∧f=[(0,.pointer (some ⟨e,0,none⟩)),(3,.int .i64 (i:Nat))]∧i≤n∧RW M' e n bO bL bF∧Only [bO,bL,bF] M M'∧M'.size=M.size) n ?_ ?_)
 ·refine JK [0,3] ?_
  exact⟨_,Thin.refl _,0,rfl,rfl,by omega,h,Only.refl _ _,rfl⟩
 ·rintro j f M' ⟨i,rfl,rfl,hi,hat,ho,hsz⟩
  obtain⟨s1,hr1⟩:=hat.row
  refine J0 (J0 (R2 @hr1 @c0 ?_))
  refine CC (decide ((i:Int)<(n:Int))) (fun hq=>J3 ?_) (fun hq=>Jp ?_)
  ·have hq:=of_decide_eq_true hq
   have z0:(0:Int)≤(i:Int):=by omega
   have w1:IntKind.i64.wrap ((i:Int)+1)=((i+1:Nat):Int):=by rw[Xl (by omega) (by omega)];omega
   obtain⟨L,hLl,hL⟩:=hat.last
   obtain⟨O,hOl,hO⟩:=hat.old
   obtain⟨x,hx⟩:∃x,L[i]?=some x:=⟨_,qf (by omega)⟩
   have cx:cellIn i (some (.cells false 1 (L.map UB)))=some (.string (str x)):=cell_map hx false 1
   have hput:Ji 1 M' bO i [.string (str x)] (some (.cells false 1 (O.map UB)))=some (M'.set bO (some (.cells false 1 ((O.set i x).map UB)))):=put_map UB (fun _=>rfl) (by omega) x M' bO 1
   obtain⟨M1,hM1⟩:∃M1,M1=M'.set bO (some (.cells false 1 ((O.set i x).map UB))):=⟨_,rfl⟩
   have h1:RW M1 e n bO bL bF:=by rw[hM1];exact hat.strs hn0 hat.old (by rw[qp];exact hOl)
   obtain⟨s2,hr2⟩:=h1.row
   obtain⟨F,hFl,hF⟩:=h1.fresh
   have hputF:Ji 1 M1 bF i [.bool false] (some (.cells false 1 (F.map Value.bool)))=some (M1.set bF (some (.cells false 1 ((F.set i false).map Value.bool)))):=put_map Value.bool (fun _=>rfl) (by omega) false M1 bF 1
   have aggS:(Value.string (str x)).cells.toList=[.string (str x)]:=rfl
   refine S0 ?_
   refine J0 (J8 (J0 (QN hmix 12 (by kernel_rfl) (by kernel_rfl) ?_)))
   simp only[zZ,reduceIte,yQ,yW,yX,yZ,yJ,yK,yV,zDk,Jc,Jb,Ja,J9,XQ,hr1,c0,c1,z0,hq,and_self,hL,hO,qe,cx,aggS,hput]
   rw[←hM1]
   refine R9 @hr2 @c2 @z0 @hq @and_self @qe @hF @aggB @hputF ?_
   refine R1 @w1 ?_
   refine JK [0,3] ?_
   exact⟨_,Thin.refl _,n-(i+1),⟨i+1,rfl,rfl,by omega,h1.flags hn0 (by rw[qp];exact hFl),(ho.trans ((by rw[hM1];exact Only.set (by simp) _):Only [bO,bL,bF] M' M1)).trans (Only.set (by simp) _),by rw[Mem.size_set,hM1,Mem.size_set];exact hsz⟩,by omega⟩
  ·refine S0 ?_
   refine J0 (R0 ?_)
   refine T0 ?_
   exact⟨_,Thin.refl _,hat,ho,hsz⟩
theorem rlast_at(h:RB M e n bO bL bF)(hn0:0<n)(hn:n≤1024):Abs.Spec qc 252 [.pointer (some ⟨e,0,none⟩),.int .i64 0] M fun u M'=>u=.tuple #[.int .i64 0,.int .i64 0]∧M'=M:=by
 have q0:((0:Int) !=0)=false:=rfl
 refine WM Tryz.func252 Tryz.results252 Tryz.ntmps252 fun _=>?_
 refine J0 (R0 ?_)
 refine J0 (R0 ?_)
 refine K0 (rread_at h hn 0 hn0) ?_
 refine J0 (J0 (R1 @q0 ?_))
 refine CF (J3 ?_)
 refine S0 ?_
 refine J0 (J0 (R0 ?_))
 refine K0 (zeros_at _) ?_
 refine CT (J0 (R0 ?_))
 refine T0 ?_
 first|exact⟨_,Thin.refl _,rfl⟩|exact⟨_,Thin.refl _⟩|exact⟨_,Thin.refl _,rfl,rfl⟩
theorem rnext_at(h:RB M e n bO bL bF)(hn0:0<n)(hn:n≤1024):Abs.Spec qc 186 [.pointer (some ⟨e,0,none⟩),.int .i64 0] M fun u M'=>u=.tuple #[.int .i64 1,.int .i64 0]∧RW M' e n bO bL bF∧Only [bO,bL,bF] M M'∧M'.size=M.size:=by
 have q0:((0:Int) !=0)=false:=rfl
 have q1:((0:Int)==4294967295)=false:=rfl
 have w1:IntKind.i64.wrap (0+1)=1:=by decide
 have hmk:(⟨#[83,76,69,49]⟩:ByteArray)=str [83,76,69,49]:=rfl
 have hfx:Abs.Spec qc 144 [.int .i64 1,.int .i64 4] M fun u M'=>u=.string (str (Sha.fixed 1 4))∧M'=M:=Abs.Spec.of_flat (by simp[flat]) rfl fun w=>rfixed_i 1 4 (by decide) (by decide) (by decide) (by decide) w
 refine WM Tryz.func186 Tryz.results186 Tryz.ntmps186 fun _=>?_
 refine J0 (R0 ?_)
 refine J0 (R0 ?_)
 refine K0 (rlast_at h hn0 hn) ?_
 refine J0 (J0 (R1 @q0 ?_))
 refine CF (J3 ?_)
 refine S0 ?_
 refine J0 (J0 (R1 @q1 ?_))
 refine CF (J3 ?_)
 refine S0 ?_
 refine J0 (R1 @w1 ?_)
 refine K2 @hmk @Zw (hfx) ?_
 refine⟨by show 4+(Sha.fixed 1 4).length≤_;rw[Sha.fixed_length];decide,?_⟩
 refine⟨by kernel_rfl,_,rwrite_at h.1 hn0 hn 0 hn0 (83::76::69::49::Sha.fixed 1 4) (by show(Sha.fixed 1 4).length+4≤256;rw[Sha.fixed_length];decide),?_⟩
 rintro _ M1 ⟨rfl,h1,ho1,hs1⟩
 refine S0 ?_
 refine J0 (J0 (R1 @q0 ?_))
 refine CF (J3 ?_)
 refine S0 ?_
 refine J0 (R0 ?_)
 refine⟨by kernel_rfl,_,rsync_at h1 hn0 hn,?_⟩
 rintro _ M2 ⟨rfl,h2,ho2,hs2⟩
 refine S0 ?_
 refine J0 (J0 (R1 @q0 ?_))
 refine CF (J3 ?_)
 refine S0 ?_
 refine J0 (R1 @w1 ?_)
 refine T0 ?_
 exact⟨_,Thin.refl _,h2,ho1.trans ho2,by omega⟩
end
def encF(b:Bool):List Value:=[.bool b]
abbrev FlagsOwn(k:Nat)(M:Mem)(V:Value)(L:List Bool):Prop:=OwnL encF 1 k M V L
theorem new_flag1(b:Bool):Jx qc 174 1 [(0,.bool b)]=some (.cells false 1 (encF b)):=by kernel_rfl
theorem flapp{k:Nat}{M:Mem}{V:Value}{L:List Bool}(h:FlagsOwn k M V L)(hk:k≤M.size)(hl:L.length≤1000000)(x:Bool):
 ∃M' V',JN qc (M.push (.cells false 1 (encF x))) 174 174 V (.slice (some ⟨M.size,0,none⟩) 1 1)=some (V',M')∧QA V'=some (M.size+1)∧FlagsOwn k M' V' (L++[x])∧
  M'.size=M.size+2∧(∀b y,QA V≠some b→M.get b=some y→M'.get b=some y):=
 oapp Tryz.underlying174 inf_Bool (show Tryz.t4.zero=some (.bool false)from rfl) sz_Bool rfl Tryz.underlying174 (fun _=>rfl) (show Tryz.t4.bytes≤1000 by decide) h hk hl x 1
theorem OwnL.set_low{α:Type}{enc:α→List Value}{N k:Nat}{M:Mem}{V:Value}{L:List α}(h:OwnL enc N k M V L){e:Nat}(he:e<k)(o:Option Blk):OwnL enc N k (M.set e o) V L:=
 h.same fun b x hb hx=>by rw[Mem.get_set_ne (by have:=(h.live hb).1;omega)];exact hx
theorem rep_succ{α:Type}(a:α)(i:Nat):qd i a++[a]=qd (i+1) a:=(qo ..).symm
theorem rnew_spec(n:Nat)(h1:1≤n)(h2:n≤1024)(M:Mem):Abs.Spec qc 54 [.int .i64 (n:Nat)] M fun u M'=>∃e bO bL bF,u=.tuple #[.pointer (some ⟨e,0,none⟩),.int .i64 0]∧RB M' e n bO bL bF∧M.size≤e∧M.size≤bO∧M.size≤bL∧M.size≤bF∧More M M':=by
 have q1:decide ((n:Int)<1)=false:=decide_eq_false (by omega)
 have q2:decide ((n:Int)>1024)=false:=decide_eq_false (by omega)
 have es:(⟨#[]⟩:ByteArray)=str []:=rfl
 have bx:QS qc 176 (.agg #[.slice none 0 0,.slice none 0 0,.slice none 0 0,.int .i64 (-1),.bool false])=some (.cells false (J6 qc 176) [.slice none 0 0,.slice none 0 0,.slice none 0 0,.int .i64 (-1),.bool false]):=bx_RDsk _ rfl
 have bd:Qo qc 176 [(3,.int .i64 (-1))]=some (.agg #[.slice none 0 0,.slice none 0 0,.slice none 0 0,.int .i64 (-1),.bool false]):=by kernel_rfl
 generalize J6 qc 176=s1 at bx
 obtain⟨e,he⟩:∃e,e=M.size:=⟨_,rfl⟩
 obtain⟨M1,hM1⟩:∃M1,M1=M.push (.cells false s1 [.slice none 0 0,.slice none 0 0,.slice none 0 0,.int .i64 (-1),.bool false]):=⟨_,rfl⟩
 have g1:M1.get e=some (.cells false s1 [.slice none 0 0,.slice none 0 0,.slice none 0 0,.int .i64 (-1),.bool false]):=by rw[hM1,he,Mem.get_push_new]
 have sz1:M1.size=e+1:=by rw[hM1,Mem.size_push,he]
 have c0:∀a b c:Value,cellIn 0 (some (.cells false s1 [a,b,c,.int .i64 (-1),.bool false]))=some a:=fun _ _ _=>rfl
 have c1:∀a b c:Value,cellIn 1 (some (.cells false s1 [a,b,c,.int .i64 (-1),.bool false]))=some b:=fun _ _ _=>rfl
 have c2:∀a b c:Value,cellIn 2 (some (.cells false s1 [a,b,c,.int .i64 (-1),.bool false]))=some c:=fun _ _ _=>rfl
 have one:∀{α:Type}{enc:α→List Value}{N k:Nat}{M:Mem}{V:Value}{L:List α},OwnL enc N k M V L→Jn [V]=true:=fun h=>by
  rcases h with⟨_,rfl⟩|⟨_,g,_,rfl,_⟩<;>rfl
 have ns:=Vb zeroS
 have nf:=new_flag1 false
 refine WM Tryz.func54 Tryz.results54 Tryz.ntmps54 fun _=>?_
 refine J0 (R0 ?_)
 refine J0 (J0 (R2 @q1 @q2 ?_))
 refine CF (J3 ?_)
 refine S0 ?_
 refine J0 (R2 @bd @bx ?_)
 rw[←hM1,←he]
 refine J0 (J0 (R0 ?_))
 refine J8 (Jt (fun j f M'=>∃(i:Nat)(VO VL VF:Value),j=n-i∧f=[(0,.int .i64 (n:Nat)),(4,.pointer (some ⟨e,0,none⟩)),(5,.int .i64 (i:Nat))]∧i≤n∧
  M'.get e=some (.cells false s1 [VO,VL,VF,.int .i64 (-1),.bool false])∧QD (e+1) M' VO (qd i zeroS)∧QD (e+1) M' VL (qd i zeroS)∧FlagsOwn (e+1) M' VF (qd i false)∧
  (∀b,QA VO=some b→QA VL≠some b)∧(∀b,QA VO=some b→QA VF≠some b)∧(∀b,QA VL=some b→QA VF≠some b)∧(∀b x,b<e→M.get b=some x→M'.get b=some x)∧e+1≤M'.size) n ?_ ?_)
 ·refine JK [0,4,5] ?_
  exact⟨M1,Thin.refl _,0,_,_,_,rfl,rfl,by omega,g1,OwnL.nil _ _,OwnL.nil _ _,OwnL.nil _ _,(fun b h=>by cases h),(fun b h=>by cases h),(fun b h=>by cases h),(fun b x hb hx=>by rw[hM1,Mem.get_push_old (by omega)];exact hx),by omega⟩
 ·rintro j f M' ⟨i,VO,VL,VF,rfl,rfl,hi,hrow,oO,oL,oF,dOL,dOF,dLF,hold,hsz⟩
  refine J0 (J0 (R0 ?_))
  refine CC (decide ((i:Int)<(n:Int))) (fun hq=>J3 ?_) (fun hq=>Jp ?_)
  ·have hq:=of_decide_eq_true hq
   have w1:IntKind.i64.wrap ((i:Int)+1)=((i+1:Nat):Int):=by rw[Xl (by omega) (by omega)];omega
   have neE:∀{α:Type}{enc:α→List Value}{N:Nat}{M:Mem}{V:Value}{L:List α},OwnL enc N (e+1) M V L→QA V≠some e:=fun h hb=>by have:=(h.live hb).1;omega
   obtain⟨M2,VO',ap2,hb2,oO2,hs2,ho2⟩:=strapp oO hsz (by simp;omega) zeroS
   rw[rep_succ]at oO2
   have r2:=ho2 e _ (neE oO) hrow
   have p2:Ji 1 M2 e 0 [VO'] (some (.cells false s1 [VO,VL,VF,.int .i64 (-1),.bool false]))=some (M2.set e (some (.cells false s1 [VO',VL,VF,.int .i64 (-1),.bool false]))):=by
    show(if [VO'].length=1∧0+[VO'].length≤5∧Jn [VO']=true then some (M2.set e (some (.cells false s1 (setL [VO,VL,VF,.int .i64 (-1),.bool false] 0 [VO']))))else none)=_
    rw[if_pos ⟨rfl,by show 0+1≤5;decide,one oO2⟩];rfl
   obtain⟨M3,hM3⟩:∃M3,M3=M2.set e (some (.cells false s1 [VO',VL,VF,.int .i64 (-1),.bool false])):=⟨_,rfl⟩
   have r3:M3.get e=some (.cells false s1 [VO',VL,VF,.int .i64 (-1),.bool false]):=by rw[hM3];exact Mem.get_set_same r2 _
   have s3:M3.size=M'.size+2:=by rw[hM3,Mem.size_set,hs2]
   have oO3:QD (e+1) M3 VO' (qd (i+1) zeroS):=by rw[hM3];exact oO2.set_low (by omega) _
   have oL3:QD (e+1) M3 VL (qd i zeroS):=by rw[hM3];exact(oL.same fun b x hb hx=>ho2 b x (fun h=>dOL b h hb) hx).set_low (by omega) _
   have oF3:FlagsOwn (e+1) M3 VF (qd i false):=by rw[hM3];exact(oF.same fun b x hb hx=>ho2 b x (fun h=>dOF b h hb) hx).set_low (by omega) _
   have h3:∀b x,b<e→M.get b=some x→M3.get b=some x:=fun b x hb hx=>by
    rw[hM3,Mem.get_set_ne (by omega)]
    exact ho2 b x (fun h=>by have:=(oO.live h).1;omega) (hold b x hb hx)
   obtain⟨M4,VL',ap4,hb4,oL4,hs4,ho4⟩:=strapp oL3 (by omega) (by simp;omega) zeroS
   rw[rep_succ]at oL4
   have r4:=ho4 e _ (neE oL3) r3
   have p4:Ji 1 M4 e 1 [VL'] (some (.cells false s1 [VO',VL,VF,.int .i64 (-1),.bool false]))=some (M4.set e (some (.cells false s1 [VO',VL',VF,.int .i64 (-1),.bool false]))):=by
    show(if [VL'].length=1∧1+[VL'].length≤5∧Jn [VL']=true then some (M4.set e (some (.cells false s1 (setL [VO',VL,VF,.int .i64 (-1),.bool false] 1 [VL']))))else none)=_
    rw[if_pos ⟨rfl,by show 1+1≤5;decide,one oL4⟩];rfl
   obtain⟨M5,hM5⟩:∃M5,M5=M4.set e (some (.cells false s1 [VO',VL',VF,.int .i64 (-1),.bool false])):=⟨_,rfl⟩
   have r5:M5.get e=some (.cells false s1 [VO',VL',VF,.int .i64 (-1),.bool false]):=by rw[hM5];exact Mem.get_set_same r4 _
   have s5:M5.size=M'.size+4:=by rw[hM5,Mem.size_set,hs4];omega
   have l3:∀b,QA VO'=some b→b=M'.size+1:=fun b hb=>by rw[hb2]at hb;cases hb;rfl
   have lL:∀b,QA VL=some b→b<M'.size:=fun b hb=>(oL.live hb).2
   have lF:∀b,QA VF=some b→b<M'.size:=fun b hb=>(oF.live hb).2
   have oO5:QD (e+1) M5 VO' (qd (i+1) zeroS):=by
    rw[hM5];exact(oO3.same fun b x hb hx=>ho4 b x (fun h=>by have:=l3 b hb;have:=lL b h;omega) hx).set_low (by omega) _
   have oL5:QD (e+1) M5 VL' (qd (i+1) zeroS):=by rw[hM5];exact oL4.set_low (by omega) _
   have oF5:FlagsOwn (e+1) M5 VF (qd i false):=by rw[hM5];exact(oF3.same fun b x hb hx=>ho4 b x (fun h=>dLF b h hb) hx).set_low (by omega) _
   have h5:∀b x,b<e→M.get b=some x→M5.get b=some x:=fun b x hb hx=>by
    rw[hM5,Mem.get_set_ne (by omega)]
    exact ho4 b x (fun h=>by have:=(oL3.live h).1;omega) (h3 b x hb hx)
   obtain⟨M6,VF',ap6,hb6,oF6,hs6,ho6⟩:=flapp oF5 (by omega) (by simp;omega) false
   rw[rep_succ]at oF6
   have r6:=ho6 e _ (neE oF5) r5
   have p6:Ji 1 M6 e 2 [VF'] (some (.cells false s1 [VO',VL',VF,.int .i64 (-1),.bool false]))=some (M6.set e (some (.cells false s1 [VO',VL',VF',.int .i64 (-1),.bool false]))):=by
    show(if [VF'].length=1∧2+[VF'].length≤5∧Jn [VF']=true then some (M6.set e (some (.cells false s1 (setL [VO',VL',VF,.int .i64 (-1),.bool false] 2 [VF']))))else none)=_
    rw[if_pos ⟨rfl,by show 2+1≤5;decide,one oF6⟩];rfl
   have l5:∀b,QA VL'=some b→b=M3.size+1:=fun b hb=>by rw[hb4]at hb;cases hb;rfl
   have l7:∀b,QA VF'=some b→b=M5.size+1:=fun b hb=>by rw[hb6]at hb;cases hb;rfl
   have ag:∀{α:Type}{enc:α→List Value}{N k:Nat}{M:Mem}{V:Value}{L:List α},OwnL enc N k M V L→V.cells.toList=[V]:=fun h=>by
    rcases h with⟨_,rfl⟩|⟨_,g,_,rfl,_⟩<;>rfl
   have a2:=ag oO2
   have a4:=ag oL4
   have a6:=ag oF6
   refine S0 ?_
   refine J0 (J8 (J0 (CW_draw2 hmix 7 (by kernel_rfl) ?_)))
   refine S3 @hrow @c0 @es ?_
   refine⟨by kernel_rfl,_,rfilled_at [] (by decide) _,?_⟩
   refine⟨by decide,?_⟩
   refine S6 @zeroS_eq @ns @ap2 @r2 @a2 @p2 ?_
   rw[←hM3]
   refine J0 (CW_draw2 hmix 7 (by kernel_rfl) ?_)
   refine S3 @r3 @c1 @es ?_
   refine⟨by kernel_rfl,_,rfilled_at [] (by decide) _,?_⟩
   refine⟨by decide,?_⟩
   refine S6 @zeroS_eq @ns @ap4 @r4 @a4 @p4 ?_
   rw[←hM5]
   refine R7 @r5 @c2 @nf @ap6 @r6 @a6 @p6 ?_
   refine R1 @w1 ?_
   refine JK [0,4,5] ?_
   refine⟨_,Thin.refl _,n-(i+1),⟨i+1,VO',VL',VF',rfl,rfl,by omega,Mem.get_set_same r6 _,?_,?_,oF6.set_low (by omega) _,?_,?_,?_,?_,by rw[Mem.size_set];omega⟩,by omega⟩
   ·exact(oO5.same fun b x hb hx=>ho6 b x (fun h=>by have:=l3 b hb;have:=lF b h;omega) hx).set_low (by omega) _
   ·exact(oL5.same fun b x hb hx=>ho6 b x (fun h=>by have:=l5 b hb;have:=lF b h;omega) hx).set_low (by omega) _
   ·intro b hb h;have:=l3 b hb;have:=l5 b h;omega
   ·intro b hb h;have:=l3 b hb;have:=l7 b h;omega
   ·intro b hb h;have:=l5 b hb;have:=l7 b h;omega
   ·intro b x hb hx
    rw[Mem.get_set_ne (by omega)]
    exact ho6 b x (fun h=>by have:=(oF5.live h).1;omega) (h5 b x hb hx)
  ·have hq:=of_decide_eq_false hq
   have hin:i=n:=by omega
   subst hin
   have ne0:∀{α:Type}(a:α),qd i a≠ []:=fun a h=>by
    have:=congrArg List.length h
    simp at this;omega
   rcases oO with⟨h,_⟩|⟨_,bO,kO,rfl,gO⟩
   ·exact absurd h (ne0 _)
   rcases oL with⟨h,_⟩|⟨_,bL,kL,rfl,gL⟩
   ·exact absurd h (ne0 _)
   rcases oF with⟨h,_⟩|⟨_,bF,kF,rfl,gF⟩
   ·exact absurd h (ne0 _)
   have gO':M'.get bO=some (.cells false 1 ((qd i zeroS).map UB)):=by rw[gO];congr 2;exact Xm UB _
   have gL':M'.get bL=some (.cells false 1 ((qd i zeroS).map UB)):=by rw[gL];congr 2;exact Xm UB _
   have gF':M'.get bF=some (.cells false 1 ((qd i false).map Value.bool)):=by rw[gF];congr 2;exact Xm Value.bool _
   simp only[qh]at hrow
   refine S0 ?_
   refine J0 (R0 ?_)
   refine T0 ?_
   exact⟨_,Thin.refl _,e,bO,bL,bF,rfl,⟨⟨⟨s1,hrow⟩,⟨_,qh,gO'⟩,⟨_,qh,gL'⟩,⟨_,qh,gF'⟩⟩,gL'⟩,by omega,by omega,by omega,by omega,fun b x hb=>hold b x (by have:=Mem.get_lt hb;omega) hb,by omega⟩
theorem msum_at(x:Int)(v:Value)(xs:List ByteArray)(m:Mem)(hd:Rd m 1 v xs.length (xs.map .string))(hlen:xs.length≤maxLen)(hsz:(Ju xs).length≤140737488355200):
 Abs.Spec qc 238 [.int .i64 x,v] m fun u M=>u=.string (str (Sha.msum x (Ju xs)))∧M=m:=
 Spec.of_below rfl fun ι w ys hy hr=>by
  obtain⟨a',b',rfl,ha,hb⟩:=vrels_two hy
  cases ha
  exact msum_any x b' xs w (Rd.strs hr hd hb) hlen hsz
theorem msum32(l:List UInt8):Sha.msum 32 l=Sha.sum l:=by
 unfold Sha.msum
 rw[List.take_of_length_le]
 rw[Sha.sum_length]
 decide
theorem cut_at(n:Nat)(hn:n≤1152921504606846976)(m:Mem):Abs.Spec qc 239 [.int .i64 n] m fun u M=>u=.int .i64 (Sha.cut n:Nat)∧M=m:=
 Abs.Spec.of_flat (by simp[flat]) rfl fun w=>cut_any n hn w
theorem new_str2(a b:ByteArray):Jx qc 31 2 [(0,.string a),(1,.string b)]=some (.cells false 1 [.string a,.string b]):=by kernel_rfl
theorem new_str3(a b c:ByteArray):Jx qc 31 3 [(0,.string a),(1,.string b),(2,.string c)]=some (.cells false 1 [.string a,.string b,.string c]):=by kernel_rfl
theorem rd_new(m:Mem)(n:Nat)(cs:List Value)(k:Nat)(hk:cs.length=k*n)(hm:k≤maxLen):Rd (m.push (.cells false n cs)) n (.slice (some ⟨m.size,0,none⟩) k k) k cs:=
 ⟨_,_,rfl,hk,qj _,hm,(fun h=>by cases h),fun p hp=>⟨_,(Option.some.inj hp).symm,fun _=>⟨false,Mem.get_push_new _ _⟩⟩⟩
theorem leaf_at(s:List UInt8)(hs:s.length≤1000000)(m:Mem):Abs.Spec qc 164 [.int .i64 32,.string (str s)] m fun u M=>u=.string (str (Ua s))∧M=m:=by
 refine Abs.Spec.of_empty (by intro x hx;simp at hx;rcases hx with rfl|rfl<;>rfl) rfl ?_ m
 refine WM Tryz.func164 Tryz.results164 Tryz.ntmps164 fun _=>?_
 have hj:Ju [str [0],str s]=0::s:=by simp[Ju,str]
 refine J0 (R0 ?_)
 refine J0 (R1 @new_str2 ?_)
 refine K0 (msum_at 32 _ [str [0],str s] _ (rd_new _ 1 _ 2 rfl (by decide)) (show 2≤maxLen by decide) (by rw[hj];simp only[List.length_cons];omega)) ?_
 refine T0 ?_
 exact⟨_,Thin.refl _,by rw[hj,msum32];rfl⟩
theorem node_at(a b:List UInt8)(ha:a.length≤1000000)(hb:b.length≤1000000)(m:Mem):Abs.Spec qc 240 [.int .i64 32,.string (str a),.string (str b)] m fun u M=>u=.string (str (Sha.sum (1::(a++b))))∧M=m:=by
 refine Abs.Spec.of_empty (by intro x hx;simp at hx;rcases hx with rfl|rfl|rfl<;>rfl) rfl ?_ m
 refine WM Tryz.func240 Tryz.results240 Tryz.ntmps240 fun _=>?_
 have hj:Ju [str [1],str a,str b]=1::(a++b):=by simp[Ju,str]
 refine J0 (R0 ?_)
 refine J0 (R1 @new_str3 ?_)
 refine K0 (msum_at 32 _ [str [1],str a,str b] _ (rd_new _ 1 _ 3 rfl (by decide)) (show 3≤maxLen by decide) (by rw[hj];simp only[List.length_cons,qk];omega)) ?_
 refine T0 ?_
 exact⟨_,Thin.refl _,by rw[hj,msum32]⟩
def StrsRd(M:Mem)(v:Value)(L:List (List UInt8)):Prop:=
 ∃a c,v=.slice a L.length c∧L.length≤c∧(L=[]→v=.slice none 0 0∨a≠none)∧∀(i:Nat) x,L[i]?=some x→∃b o ro cs,a=some ⟨b,o,none⟩∧M.get b=some (.cells ro 1 cs)∧cs[o+i]?=some (.string (str x))
theorem StrsRd.same{M M':Mem}{v:Value}{L:List (List UInt8)}(h:StrsRd M v L)(hs:∀b x,M.get b=some x→M'.get b=some x):StrsRd M' v L:=by
 obtain⟨a,c,h1,h2,h3,h4⟩:=h
 refine⟨a,c,h1,h2,h3,fun i x hx=>?_⟩
 obtain⟨b,o,ro,cs,e1,e2,e3⟩:=h4 i x hx
 exact⟨b,o,ro,cs,e1,hs _ _ e2,e3⟩
theorem OwnL.strs{k:Nat}{M:Mem}{V:Value}{L:List (List UInt8)}(h:QD k M V L):StrsRd M V L:=by
 rcases h with⟨rfl,rfl⟩|⟨h0,g,hk,rfl,hg⟩
 ·exact⟨none,0,rfl,by simp,fun _=>.inl rfl,fun i x hx=>by simp at hx⟩
 ·refine⟨_,_,rfl,qj _,fun e=>absurd e h0,fun i x hx=>⟨g,0,false,_,rfl,hg,?_⟩⟩
  rw[Nat.zero_add]
  rw[show L.flatMap encS=L.map (fun s=>Value.string (str s))from Xm (fun s=>Value.string (str s)) L,List.getElem?_map,hx]
  rfl
theorem ss_from{get:Nat→Option Blk}{b o len cap:Nat}{ro:Bool}{cs:List Value}(hb:get b=some (.cells ro 1 cs))(l:Nat)(h1:l≤len):
 JY qc get 31 (.slice (some ⟨b,o,none⟩) len cap) (some (.int .i64 (l:Nat))) none=some (.slice (some ⟨b,o+l,none⟩) (len-l) (cap-l)):=by
 have hs:Tryz.t9.size=1:=rfl
 have hc:(0:Int)≤(l:Int)∧(l:Int)≤(len:Int):=by omega
 unfold JY X3
 simp only[qm,Zp,hs,hb,if_pos hc,if_true,Nat.mul_one,qe]
theorem ss_upto{get:Nat→Option Blk}{b o len cap:Nat}{ro:Bool}{cs:List Value}(hb:get b=some (.cells ro 1 cs))(h:Nat)(h1:h≤cap):
 JY qc get 31 (.slice (some ⟨b,o,none⟩) len cap) none (some (.int .i64 (h:Nat)))=some (.slice (some ⟨b,o,none⟩) h cap):=by
 have hs:Tryz.t9.size=1:=rfl
 have hc:(0:Int)≤(h:Int)∧(h:Int)≤(cap:Int):=by omega
 unfold JY X3
 simp only[qm,Zp,hs,hb,if_pos hc,if_true,Nat.mul_one,Nat.add_zero,Nat.zero_mul,qe,Nat.sub_zero]
theorem rootL_cut{L:List (List UInt8)}(h:2≤L.length):X5 L=Sha.sum (1::(X5 (L.take (Sha.cut L.length))++X5 (L.drop (Sha.cut L.length)))):=by
 match L,h with
 |a::b::r,_=>
  have h1:=Sha.cut_lt (r.length+2) (by omega)
  have h2:=Sha.cut_pos (r.length+2)
  rw[X5,Nat.min_eq_left (by omega),Nat.max_eq_left h2]
  rfl
theorem rootL_le{L:List (List UInt8)}(h:∀x∈L,x.length≤1000000):(X5 L).length≤1000000:=by
 match L,h with
 | [],_=>rw[X5,Sha.sum_length];decide
 | [a],h=>rw[X5];exact h a (by simp)
 |a::b::r,_=>rw[X5,Sha.sum_length];decide
theorem mroot_spec:∀(n:Nat)(L:List (List UInt8)),L.length≤n→n≤1000000→(∀x∈L,x.length≤1000000)→∀(M:Mem)(v:Value),StrsRd M v L→
 Abs.Spec qc 165 [.int .i64 32,v] M fun u M'=>u=.string (str (X5 L))∧M'=M:=by
 intro n
 induction n with
 |zero=>
  intro L hn _ _ M v h
  obtain rfl:L=[]:=List.eq_nil_of_length_eq_zero (by omega)
  obtain⟨a,c,rfl,_,hnil,_⟩:=h
  have hj:Ju []=[]:=rfl
  have q1:(((0:Nat):Int)==0)=true:=rfl
  refine WM Tryz.func165 Tryz.results165 Tryz.ntmps165 fun _=>?_
  refine J0 (R0 ?_)
  refine J0 (J0 (R0 ?_))
  refine J8 (J0 (R2 @List.length_nil.{0} @q1 ?_))
  refine CT (J0 (R0 ?_))
  refine K0 (msum_at 32 (.slice none 0 0) [] M ⟨none,0,rfl,rfl,qj _,Nat.zero_le _,fun _=>rfl,fun p hp=>by cases hp⟩ (Nat.zero_le _) (by rw[hj];simp)) ?_
  refine T0 ?_
  exact⟨_,Thin.refl _,by rw[hj,msum32,X5],rfl⟩
 |succ n ih=>
  intro L hn hb hxl M v h
  by_cases hle:L.length≤n
  ·exact ih L hle (by omega) hxl M v h
  have hL:L.length=n+1:=by omega
  obtain⟨a,c,rfl,hc2,_,hrd⟩:=h
  have q1:(((L.length:Nat):Int)==0)=false:=by rw[hL];simp;omega
  by_cases h1:n=0
  ·subst h1
   obtain⟨x,rfl⟩:∃x,L=[x]:=List.length_eq_one_iff.1 hL
   obtain⟨b,o,ro,cs,rfl,hg,hcs⟩:=hrd 0 x rfl
   have q2:((([x].length:Nat):Int)==1)=true:=rfl
   have c0:cellIn (o+0) (some (.cells ro 1 cs))=some (.string (str x)):=hcs
   have z0:(0:Int)≤0:=by omega
   have z1:(0:Int)<((1:Nat):Int):=by omega
   refine WM Tryz.func165 Tryz.results165 Tryz.ntmps165 fun _=>?_
   refine J0 (R0 ?_)
   refine J0 (J0 (R0 ?_))
   refine J8 (J0 (R1 @q1 ?_))
   refine CF (J0 (R1 @q2 ?_))
   refine CT (J0 (R6 @List.length_singleton.{0} @z0 @z1 @and_self @hg @c0 ?_))
   refine T0 ?_
   exact⟨_,Thin.refl _,by rw[X5],rfl⟩
  ·have h2:2≤L.length:=by omega
   have cl:=Sha.cut_lt L.length h2
   have cp:=Sha.cut_pos L.length
   have hr:=rootL_cut h2
   obtain⟨ct,hct⟩:∃ct,ct=Sha.cut L.length:=⟨_,rfl⟩
   obtain⟨x0,hx0⟩:∃x,L[0]?=some x:=⟨_,qf (by omega)⟩
   obtain⟨b,o,ro,cs,rfl,hg,_⟩:=hrd 0 x0 hx0
   have rd:∀(i:Nat) x,L[i]?=some x→cs[o+i]?=some (.string (str x)):=fun i x hi=>by
    obtain⟨b',o',ro',cs',e1,e2,e3⟩:=hrd i x hi
    cases e1
    rw[hg]at e2;cases e2
    exact e3
   rw[←hct]at cl cp hr
   have q2:(((L.length:Nat):Int)==1)=false:=by simp;omega
   have cu:=cut_at L.length (by omega) M
   rw[←hct]at cu
   have tl:(L.take ct).length=ct:=by rw[List.length_take];omega
   have dl:(L.drop ct).length=L.length-ct:=by rw[List.length_drop]
   have r1:=ih (L.take ct) (by omega) (by omega) (fun x hm=>hxl x (List.mem_of_mem_take hm)) M (.slice (some ⟨b,o,none⟩) ct c) ⟨_,_,by rw[tl],by omega,fun e=>.inr (by simp),fun i x hi=>by
    rw[List.getElem?_take]at hi
    split at hi
    ·exact⟨b,o,ro,cs,rfl,hg,rd i x hi⟩
    ·cases hi⟩
   have r2:=ih (L.drop ct) (by omega) (by omega) (fun x hm=>hxl x (List.mem_of_mem_drop hm)) M (.slice (some ⟨b,o+ct,none⟩) (L.length-ct) (c-ct)) ⟨_,_,by rw[dl],by omega,fun e=>.inr (by simp),fun i x hi=>by
    rw[List.getElem?_drop]at hi
    exact⟨b,o+ct,ro,cs,rfl,hg,by rw[Nat.add_assoc];exact rd _ x hi⟩⟩
   have s1:=ss_upto (get:=M.get) (o:=o) (len:=L.length) (cap:=c) hg ct (by omega)
   have s2:=ss_from (get:=M.get) (o:=o) (len:=L.length) (cap:=c) hg ct (by omega)
   have nd:=node_at (X5 (L.take ct)) (X5 (L.drop ct)) (rootL_le fun x hm=>hxl x (List.mem_of_mem_take hm)) (rootL_le fun x hm=>hxl x (List.mem_of_mem_drop hm)) M
   refine WM Tryz.func165 Tryz.results165 Tryz.ntmps165 fun _=>?_
   refine J0 (R0 ?_)
   refine J0 (J0 (R0 ?_))
   refine J8 (J0 (R1 @q1 ?_))
   refine CF (J0 (R1 @q2 ?_))
   refine CF (J3 ?_)
   refine S0 ?_
   refine J0 (R0 ?_)
   refine K0 (cu) ?_
   refine J0 (QN hmix 11 (by kernel_rfl) (by kernel_rfl) ?_)
   simp only[zZ,reduceIte,yQ,yW,yX,yZ,yJ,yK,yV,zDk,Jc,Jb,Ja,J9,XQ,s1]
   refine⟨by kernel_rfl,_,r1,?_⟩
   refine⟨by decide,?_⟩
   refine S1 @s2 ?_
   refine⟨by kernel_rfl,_,r2,?_⟩
   refine⟨by decide,?_⟩
   refine S0 ?_
   refine K0 (nd) ?_
   refine T0 ?_
   exact⟨_,Thin.refl _,by rw[hr],rfl⟩
def StepS(M:Mem)(x:List UInt8)(p p':List (Option Blk)×Value):Prop:=
 JN qc ((M.app p.1).push (.cells false 1 (encS x))) 31 31 p.2 (.slice (some ⟨(M.app p.1).size,0,none⟩) 1 1)=some (p'.2,M.app p'.1)
def InvS(M:Mem)(es:List (List UInt8))(i:Nat)(p:List (Option Blk)×Value):Prop:=p.1.all Vl=true∧QD M.size (M.app p.1) p.2 (es.take i)
theorem chainS(M:Mem)(es:List (List UInt8))(hl:es.length≤100000):∀n,n≤es.length→∃sq:Nat→List (Option Blk)×Value,sq 0=([],.slice none 0 0)∧(∀i,i≤n→InvS M es i (sq i))∧∀(i:Nat) x,i<n→es[i]?=some x→StepS M x (sq i) (sq (i+1)):=by
 intro n
 induction n with
 |zero=>
  intro _
  refine⟨fun _=>([],.slice none 0 0),rfl,fun i hi=>?_,fun i o hi=>by omega⟩
  obtain rfl:i=0:=by omega
  exact⟨rfl,OwnL.nil _ _⟩
 |succ n ih=>
  intro hn
  obtain⟨sq,h0,h1,h2⟩:=ih (by omega)
  obtain⟨x,ho⟩:∃o,es[n]?=some o:=⟨_,qf (by omega)⟩
  have hst:es.take (n+1)=es.take n++[x]:=by rw[List.take_add_one,ho];rfl
  obtain⟨p',hp1,hp2⟩:∃p',InvS M es (n+1) p'∧StepS M x (sq n) p':=by
   obtain⟨i1,i2⟩:=h1 n (qj _)
   obtain⟨N1,V',a1,a2,a3,_⟩:=oappx qm Zp Str_zero sz_Str rfl qm (fun _=>rfl) Str_bytes (M0:=M) rfl i1 i2 (qj _) (by rw[UU];omega) (by rw[List.length_take];omega) x 1
   exact⟨(N1,V'),⟨a2,by rw[hst];exact a3⟩,a1⟩
  refine⟨fun j=>if j=n+1 then p' else sq j,by simp[h0],fun i hi=>?_,fun i o' hi ho'=>?_⟩
  ·by_cases e:i=n+1
   ·subst e;simpa using hp1
   ·simp only[e,if_false];exact h1 i (by omega)
  ·by_cases e:i=n
   ·subst e
    rw[ho]at ho';cases ho'
    simpa using hp2
   ·have e1:¬i=n+1:=by omega
    have e2:¬i+1=n+1:=by omega
    simp only[e1,e2,if_false]
    exact h2 i o' (by omega) ho'
theorem aroot_exact(L:List (List UInt8))(hl:L.length≤1000)(hxl:∀x∈L,x.length≤1000000)(M:Mem)(v:Value)(h:StrsRd M v L):
 ∃N,Abs.Spec qc 78 [v] M (fun u M'=>u=.string (str (rootV L))∧M'=M.app N)∧N.all Vl=true:=by
 obtain⟨a,c,rfl,hc2,hnil,hrd⟩:=h
 obtain⟨sq,sq0,inv,stp⟩:=chainS M (L.map Ua) (by rw[qq];omega) L.length (by rw[qq];omega)
 have invL:=inv L.length (qj _)
 refine⟨(sq L.length).1,?_,invL.1⟩
 refine WM Tryz.func78 Tryz.results78 Tryz.ntmps78 fun _=>?_
 have eM:M=M.app (sq 0).1:=by rw[sq0];simp[Mem.app]
 have eV:(Value.slice none 0 0)=(sq 0).2:=by rw[sq0]
 have mfin:∀M':Mem,M'=M.app (sq L.length).1→Abs.Spec qc 165 [.int .i64 32,(sq L.length).2] M' fun u M''=>u=.string (str (X5 (L.map Ua)))∧M''=M':=fun M' e=>by
  have hown:=invL.2
  rw[List.take_of_length_le (by rw[qq];omega)]at hown
  refine mroot_spec 1000 (L.map Ua) (by rw[qq];exact hl) (by decide) (fun y hy=>by
   obtain⟨z,_,rfl⟩:=List.mem_map.1 hy
   show(Sha.sum _).length≤_
   rw[Sha.sum_length];decide) M' _ ?_
  rw[e];exact hown.strs
 refine J0 (R0 ?_)
 refine J0 (R0 ?_)
 rw[eV]
 refine J0 (J0 (R0 ?_))
 refine J8 (Jt (fun j f M'=>∃(i:Nat),j=L.length-i∧f=[(3,(sq i).2),(6,.slice a L.length c),(7,.int .i64 (L.length:Nat)),(8,.int .i64 (i:Nat))]∧i≤L.length∧M'=M.app (sq i).1) L.length ?_ ?_)
 ·refine JK [3,6,7,8] ?_
  exact⟨M,Thin.refl _,0,rfl,rfl,by omega,eM⟩
 ·rintro j f M' ⟨i,rfl,rfl,hi,rfl⟩
  refine J0 (R0 ?_)
  refine J0 (CC (decide ((i:Int)<(L.length:Int))) (fun hq=>J3 ?_) (fun hq=>Jp ?_))
  ·have hiL:=of_decide_eq_true hq
   obtain⟨x,hxi⟩:∃x,L[i]?=some x:=⟨_,qf (by omega)⟩
   obtain⟨b,o,ro,cs,rfl,hg,hcs⟩:=hrd i x hxi
   have hg':=ZO M (sq i).1 _ _ hg
   have c0:cellIn (o+i) (some (.cells ro 1 cs))=some (.string (str x)):=hcs
   have z0:(0:Int)≤(i:Int):=by omega
   have w9:IntKind.i64.wrap ((i:Int)+1)=((i+1:Nat):Int):=by rw[Xl (by omega) (by omega)];omega
   have lf:=leaf_at x (hxl x (List.mem_of_getElem? hxi)) (M.app (sq i).1)
   have nw:=Vb (Ua x)
   have st:=stp i (Ua x) (by omega) (by rw[List.getElem?_map,hxi];rfl)
   unfold StepS at st
   refine S0 ?_
   refine J0 (J8 (J0 (R6 @z0 @hiL @and_self @hg' @qe @c0 ?_)))
   refine R0 ?_
   refine K2 @nw @st (lf) ?_
   refine R1 @w9 ?_
   refine JK [3,6,7,8] ?_
   exact⟨_,Thin.refl _,L.length-(i+1),⟨i+1,rfl,rfl,by omega,rfl⟩,by omega⟩
  ·have hiL:=of_decide_eq_false hq
   obtain rfl:i=L.length:=by omega
   have mr:=mfin _ rfl
   refine S0 ?_
   refine J0 (R0 ?_)
   refine K0 (mr) ?_
   refine T0 ?_
   exact⟨_,Thin.refl _,rfl,rfl⟩
end Go.Proofs.YteccmcpaheepcaaGreatDoor
namespace Go.Proofs.YteccmcpaheepcaaGreatDoor
open Go.RowKit
theorem rrotr_key(x n m:Nat)(hx:x<4294967296)(hn1:2≤n)(hn:n≤31)(hm:m=32-n):
 bits .or .i64 ((x:Int)/2^n) (bits .and .i64 (wrap64 ((x:Int)*2^m)) 4294967295)=(Sha.rotr x n:Nat):=by
 have hp:x*2^m≤4611686018427387904:=by
  have h1:2^m≤2^30:=Nat.pow_le_pow_right (by decide) (by omega)
  exact Nat.le_trans (Nat.mul_le_mul (Nat.le_of_lt hx) h1) (by decide)
 have e1:wrap64 ((x:Int)*2^m)=((x*2^m:Nat):Int):=by
  have e:((x:Int)*2^m)=((x*2^m:Nat):Int):=by push_cast;rfl
  rw[e]
  generalize x*2^m=P at*
  unfold wrap64
  omega
 have e2:((x:Int)/2^n)=((x/2^n:Nat):Int):=by push_cast;rfl
 have h2:x/2^n≤x:=Nat.div_le_self _ _
 have e3:=Qw (x*2^m) 4294967295 (by omega) (by omega)
 rw[show x*2^m&&&4294967295=x*2^m%4294967296 from Nat.and_two_pow_sub_one_eq_mod _ 32]at e3
 have h3:x*2^m%4294967296<4294967296:=Nat.mod_lt _ (by decide)
 rw[e1,e2]
 refine(congrArg (bits .or .i64 ((x/2^n:Nat):Int)) e3).trans ?_
 rw[VU _ _ (by omega) (by omega)]
 unfold Sha.rotr
 rw[Nat.shiftRight_eq_div_pow,Nat.shiftLeft_eq,hm]
theorem rrotr_any(x n:Nat)(hx:x<4294967296)(hn1:2≤n)(hn:n≤31)(w:World):
 Calls qc 215 #[.int .i64 x,.int .i64 n] w fun e w'=>e=.returned (.int .i64 (Sha.rotr x n:Nat))∧Below w.heap.size w w':=by
 have n0:(0:Int)≤n:=by omega
 have n1:(n:Int)<64:=by omega
 obtain⟨m,hm⟩:∃m:Nat,m=32-n:=⟨_,rfl⟩
 have m0:(32:Int)-n=m:=by omega
 have m1:(0:Int)≤m:=by omega
 have m2:(m:Int)<64:=by omega
 have HK:=Lib.hid (rrotr_key x n m hx hn1 hn hm)
 clear hm
 go_enter Tryz.func215,Tryz.ntmps215
 go_wp2_with fail
 go_quiet (fail)
 have HB:=Lib.hid ((Same.drewN w nq).below w.heap.size)
 generalize w.drewN nq=w1 at*
 go_wp2_with fail
 go_ret
 exact⟨by rw[←HK.out];rfl,HB.out⟩
def natV(n:Nat):Value:=.int .i64 n
def w8i(v:Sha.W8):List Nat:=[v.a,v.b,v.c,v.d,v.e,v.f,v.g,v.h]
def Ka(m:List UInt8)(k:Nat):List UInt8:=m++0x80::qd k 0
theorem padS_snoc(m:List UInt8)(k:Nat):J5 (Ka m k)++[Jy 0]=J5 (Ka m (k+1)):=by
 simp[J5,Ka,qo]
theorem padS_length(m:List UInt8)(k:Nat):(Ka m k).length=m.length+1+k:=by
 simp[Ka];omega
theorem pad_byte(n j:Nat)(hn:n≤140737488355200)(hj:j<8):Value.int .u8 (bits BinOp.and IntKind.i64 (8*(n:Int)/2^(8*(7-j))) 255%256)=Jy (UInt8.ofNat ((8*n)>>>(56-8*j))):=by
 have e:(8*(n:Int)/2^(8*(7-j)))=((8*n/2^(8*(7-j)):Nat):Int):=by push_cast;rfl
 have hle:8*n/2^(8*(7-j))≤8*n:=Nat.div_le_self _ _
 have e2:=Qw (8*n/2^(8*(7-j))) 255 (by omega) (by omega)
 rw[show 8*n/2^(8*(7-j))&&&255=8*n/2^(8*(7-j))%256 from Nat.and_two_pow_sub_one_eq_mod _ 8]at e2
 rw[e]
 unfold Jy
 congr 1
 refine(congrArg (·%256) e2).trans ?_
 rw[UInt8.toNat_ofNat',Nat.shiftRight_eq_div_pow,show 56-8*j=8*(7-j) by omega]
 omega
theorem pad_snoc(q:List UInt8)(n j:Nat)(hn:n≤140737488355200)(hj:j<8):J5 (q++(Sha.be8 (8*n)).take j)++[Value.int .u8 (bits BinOp.and IntKind.i64 (8*(n:Int)/2^(8*(7-j))) 255%256)]=J5 (q++(Sha.be8 (8*n)).take (j+1)):=by
 rw[pad_byte n j hn hj,List.take_add_one,be8_get _ _ hj]
 simp[J5]
end Go.Proofs.YteccmcpaheepcaaGreatDoor
