/-
  The walk of Block.
-/
import Derived.Test.YteccmcpaheepcaaGreatDoorPart19
import Derived.Test.YteccmcpaheepcaaGreatDoorPart10
import Derived.Orders
import Derived.Test.YteccmcpaheepcaaGreatDoorPart09
import Derived.Test.YteccmcpaheepcaaGreatDoorPart15
import Derived.Test.YteccmcpaheepcaaGreatDoorPart14
import Derived.Test.YteccmcpaheepcaaGreatDoorPart13
set_option linter.unusedSimpArgs false
set_option linter.unusedVariables false
set_option linter.unusedSectionVars false
set_option linter.unnecessarySimpa false
set_option linter.defProp false
set_option maxRecDepth 100000
set_option maxHeartbeats 16000000
open Nat renaming reduceLT → yQ, reduceEqDiff → yK, reduceAdd → yV, reduceSub → yY, reduceMul → yU
open Int renaming reduceToNat → yW, reduceLE → yX, reduceEq → yZ, reduceLT → yJ
open Go.Proofs.Tryz renaming prog → qc
open List renaming length_append → qd, replicate → qe, append_nil → qf, mem_cons → qh, eq_nil_of_length_eq_zero → qj, getElem?_eq_some_iff → qk, getElem?_eq_getElem → qm, filter_cons_of_pos → qn, pairwise_cons → qo, nil_append → qp, mem_singleton → qq, length_nil → qr, mem_of_getElem? → qv, length_filterMap_le → qw, Pairwise → qx, length_cons → qy, set_append_right → qz, mem_append → qA, set_cons_zero → qB
open Int renaming toNat_natCast → qi
open Nat renaming le_refl → qt, sub_zero → qu
namespace Go.Proofs.YteccmcpaheepcaaGreatDoor
open Go.RowKit Abs
theorem dblock_none(id i:Int)(M:Mem):
 Abs.Spec qc 23 [.pointer none,.int .i64 id,.int .i64 i] M fun u M'=>u=.tuple #[.string ⟨#[]⟩,.int .i64 8]∧More M M':=by
 refine VE Tryz.func23 Tryz.results23 Tryz.ntmps23 fun hc hx k=>?_
 have halE:Q0 qc 102=some (.cells false (J5 qc 102) noExt.cells):=al_Ext
 generalize J5 qc 102=s2 at halE
 have q1:decide ((-1:Int)≥0)=false:=rfl
 refine J0 (R0 ?_)
 refine J0 (R0 ?_)
 refine⟨by kernel_rfl,_,Uk id M,?_⟩
 rintro _ M1 ⟨rfl,mo⟩
 refine S0 ?_
 refine J0 (R1 @halE ?_)
 have mo2:=mo.trans (More.push M1 (.cells false s2 noExt.cells))
 refine J0 (Ja (J0 (R1 @q1 ?_)))
 refine CF (J0 (R1 @q1 ?_))
 refine CF (J0 (R0 ?_))
 refine T0 ?_
 exact⟨_,Thin.refl _,mo2⟩
end Go.Proofs.YteccmcpaheepcaaGreatDoor
namespace Go.Proofs.YteccmcpaheepcaaGreatDoor.Stab
section
variable {α : Type} (key : α → Int)
def Rising(l:List α):Prop:=l.Pairwise fun a b=>key a≤key b
def QX(k:Int)(l:List α):List α:=l.filter fun a=>key a==k
structure Stable(l r:List α):Prop where
 rising:Rising key r
 keys:∀k,QX key k r=QX key k l
 len:r.length=l.length
theorem Xb(k:Int)(a b:List α):QX key k (a++b)=QX key k a++QX key k b:=List.filter_append ..
theorem Xc{k:Int}{l:List α}{a:α}:a∈QX key k l↔a∈l∧key a=k:=by
 unfold QX;rw[List.mem_filter,beq_iff_eq]
theorem ofKey_nil_of{k:Int}{l:List α}(h:∀a∈l,key a≠k):QX key k l=[]:=by
 unfold QX
 rw[List.filter_eq_nil_iff]
 intro a ha
 rw[beq_iff_eq]
 exact h a ha
theorem Stable.mem{l r:List α}(h:Stable key l r)(a:α):a∈r↔a∈l:=by
 constructor
 ·intro ha
  have:a∈QX key (key a) r:=(Xc key).2 ⟨ha,rfl⟩
  rw[h.keys]at this
  exact((Xc key).1 this).1
 ·intro ha
  have:a∈QX key (key a) l:=(Xc key).2 ⟨ha,rfl⟩
  rw[←h.keys]at this
  exact((Xc key).1 this).1
theorem Stable.refl{l:List α}(h:Rising key l):Stable key l l:=⟨h,fun _=>rfl,rfl⟩
theorem Stable.of_keys{a b c:List α}(h:∀k,QX key k b=QX key k a)(hl:b.length=a.length)(g:Stable key b c):Stable key a c:=⟨g.rising,fun k=>(g.keys k).trans (h k),g.len.trans hl⟩
theorem rising_unique:∀{r r':List α},Rising key r→Rising key r'→(∀k,QX key k r=QX key k r')→r=r'
 | [],r',_,_,h=>by
   cases r' with
   |nil=>rfl
   |cons b t=>
    have:=h (key b)
    have hb:b∈QX key (key b) (b::t):=(Xc key).2 ⟨by simp,rfl⟩
    rw[←this]at hb
    cases hb
 |a::r,r',h1,h2,h=>by
  cases r' with
  |nil=>
   have:=h (key a)
   have ha:a∈QX key (key a) (a::r):=(Xc key).2 ⟨by simp,rfl⟩
   rw[this]at ha
   cases ha
  |cons b t=>
   have h1':=qo.1 h1
   have h2':=qo.1 h2
   have kab:key a=key b:=by
    have ha:a∈QX key (key a) (b::t):=by rw[←h];exact(Xc key).2 ⟨by simp,rfl⟩
    have hb:b∈QX key (key b) (a::r):=by rw[h];exact(Xc key).2 ⟨by simp,rfl⟩
    have ha:=((Xc key).1 ha).1
    have hb:=((Xc key).1 hb).1
    have e1:key b≤key a:=by
     rcases qh.1 ha with rfl|ha
     ·exact Int.le_refl _
     ·exact h2'.1 a ha
    have e2:key a≤key b:=by
     rcases qh.1 hb with rfl|hb
     ·exact Int.le_refl _
     ·exact h1'.1 b hb
    omega
   have hab:a=b∧QX key (key a) r=QX key (key a) t:=by
    have:=h (key a)
    unfold QX at this
    rw[qn (by simp),qn (by simp[kab])]at this
    exact⟨(List.cons.inj this).1,(List.cons.inj this).2⟩
   obtain⟨rfl,_⟩:=hab
   congr 1
   refine rising_unique h1'.2 h2'.2 fun k=>?_
   have:=h k
   unfold QX at this ⊢
   by_cases hk:key a=k
   ·rw[qn (by simp[hk]),qn (by simp[hk])]at this
    exact(List.cons.inj this).2
   ·rw[List.filter_cons_of_neg (by simp[hk]),List.filter_cons_of_neg (by simp[hk])]at this
    exact this
theorem Stable.unique{l r r':List α}(h:Stable key l r)(h':Stable key l r'):r=r':=rising_unique key h.rising h'.rising fun k=>(h.keys k).trans (h'.keys k).symm
theorem Rising.app{a b:List α}(ha:Rising key a)(hb:Rising key b)(h:∀x∈a,∀y∈b,key x≤key y):Rising key (a++b):=List.pairwise_append.2 ⟨ha,hb,h⟩
theorem Rising.parts{a b:List α}(h:Rising key (a++b)):Rising key a∧Rising key b∧∀x∈a,∀y∈b,key x≤key y:=List.pairwise_append.1 h
theorem ofKey_swap{a b:List α}(h:∀x∈a,∀y∈b,key x≠key y)(k:Int):QX key k (a++b)=QX key k (b++a):=by
 rw[Xb,Xb]
 by_cases ha:∃x∈a,key x=k
 ·obtain⟨x,hx,rfl⟩:=ha
  have hb:QX key (key x) b=[]:=ofKey_nil_of key fun y hy e=>h x hx y hy e.symm
  rw[hb,qp,qf]
 ·have ha:QX key k a=[]:=ofKey_nil_of key fun x hx e=>ha ⟨x,hx,e⟩
  rw[ha,qp,qf]
theorem UH{y:α}{x1 x2:List α}(hx:Rising key (x1++x2))(h1:∀x∈x1,key x≤key y)(h2:∀x∈x2,key y<key x):Stable key (x1++x2++[y]) (x1++y::x2):=by
 obtain⟨a,b,c⟩:=Rising.parts key hx
 refine⟨Rising.app key a (qo.2 ⟨fun z hz=>Int.le_of_lt (h2 z hz),b⟩) fun z hz w hw=>?_,fun k=>?_,by simp<;>omega⟩
 ·rcases qh.1 hw with rfl|hw
  ·exact h1 z hz
  ·exact c z hz w hw
 ·have:=ofKey_swap key (a:=x2) (b:=[y]) (fun z hz w hw e=>by simp only[qq]at hw;subst hw;have:=h2 z hz;omega) k
  rw[show x1++y::x2=x1++([y]++x2) by simp,List.append_assoc,Xb,←this,←Xb]
end
end Go.Proofs.YteccmcpaheepcaaGreatDoor.Stab
namespace Go.Proofs.YteccmcpaheepcaaGreatDoor
open Go.RowKit Abs
theorem setL_in:∀(a b c:List Value),b.length≤c.length→setL (a++c) a.length b=a++b++c.drop b.length
 | [],[],c,_=>by simp[setL]
 |a,x::b,[],h=>by simp at h
 |a,[],c,_=>by simp[setL]
 |a,x::b,y::c,h=>by
  have ih:=setL_in (a++[x]) b c (by simpa using h)
  rw[setL]
  have e:(a++y::c).set a.length x=(a++[x])++c:=by simp
  rw[e]
  simp only[qd,qy,qr]at ih
  rw[ih]
  simp
theorem split_at{α:Type}{xs:List α}{k:Nat}{x:α}(hx:xs[k]?=some x):∃P Q,xs=P++x::Q∧P.length=k:=by
 obtain⟨h1,h2⟩:=qk.1 hx
 refine⟨xs.take k,xs.drop (k+1),?_,by rw[List.length_take];omega⟩
 rw[←h2,List.getElem_cons_drop,List.take_append_drop]
theorem set_mid{α:Type}(P Q:List α)(x y:α):(P++x::Q).set P.length y=P++y::Q:=by
 rw[qz _ _ (qt _),Nat.sub_self,qB]
theorem putIn_at{α:Type}{n:Nat}{f:α→List Value}{xs:List α}(hl:∀x∈xs,(f x).length=n){k:Nat}{x:α}(hx:xs[k]?=some x)(y:α)(hy:(f y).length=n)(ho:Jn (f y)=true)(m:Mem)(g s:Nat):
 Jk n m g (k*n) (f y) (some (.cells false s (xs.flatMap f)))=some (m.set g (some (.cells false s ((xs.set k y).flatMap f)))):=by
 obtain⟨P,Q,rfl,rfl⟩:=split_at hx
 rw[set_mid]
 have hP:(P.flatMap f).length=P.length*n:=flatMap_len f n P fun x hx=>hl x (by simp[hx])
 have hxl:(f x).length=n:=hl x (by simp)
 unfold Jk
 simp only[List.flatMap_append,List.flatMap_cons]
 rw[if_pos ⟨hy,by simp only[qd];omega,ho⟩,←hP]
 rw[setL_in _ _ _ (by simp only[qd];omega),hy,←hxl,List.drop_left,List.append_assoc]
end Go.Proofs.YteccmcpaheepcaaGreatDoor
namespace Go.Proofs.YteccmcpaheepcaaGreatDoor
open Go.RowKit Abs Stab
def V1(h:Ext):Int:=h.base
def SmallE(L:List Ext):Prop:=∀h∈L, -1099511627776≤h.base∧h.base≤1099511627776
theorem exl_len(h:Ext):h.cells.length=8:=rfl
theorem exl_one(h:Ext):Jn h.cells=true:=rfl
def Zx(M:Mem)(g:Nat)(L:List Ext):Prop:=M.get g=some (.cells false 8 (L.flatMap Ext.cells))
theorem exl_row{M:Mem}{g:Nat}{L:List Ext}(h:Zx M g L){k:Nat}{x:Ext}(hx:L[k]?=some x):Jm 8 (k*8) (M.get g)=some (.agg x.cells.toArray):=by
 rw[show M.get g=_ from h]
 exact rowIn_at (n:=8) (fun a _=>exl_len a) hx false 8
theorem exl_put{M:Mem}{g:Nat}{L:List Ext}(h:Zx M g L){k:Nat}{x:Ext}(hx:L[k]?=some x)(y:Ext):∃M',Jk 8 M g (k*8) y.cells (M.get g)=some M'∧Zx M' g (L.set k y)∧Only [g] M M'∧M'.size=M.size:=by
 refine⟨_,?_,Mem.get_set_same h _,Only.set (by simp) _,Mem.size_set _ _ _⟩
 rw[show M.get g=_ from h]
 exact putIn_at (fun a _=>exl_len a) hx y (exl_len y) (exl_one y) M g 8
def cmpE:Value:=.func (.func 138) #[] #[]
theorem cmpe_spec(a b:Ext)(ha: -1099511627776≤a.base∧a.base≤1099511627776)(hb: -1099511627776≤b.base∧b.base≤1099511627776)(m:Mem):
 Abs.Spec qc 138 [.agg a.cells.toArray,.agg b.cells.toArray] m fun u M=>u=.int .i64 (a.base-b.base)∧M=m:=by
 refine Abs.Spec.of_empty (by intro x hx;simp at hx;rcases hx with rfl|rfl<;>rfl) rfl ?_ m
 have w:IntKind.i64.wrap (a.base-b.base)=a.base-b.base:=XJ (by omega) (by omega)
 have b1:QK qc 102 (.agg a.cells.toArray)=some (.cells false (J5 qc 102) a.cells):=UP _ rfl
 have b2:QK qc 102 (.agg b.cells.toArray)=some (.cells false (J5 qc 102) b.cells):=UP _ rfl
 generalize J5 qc 102=s1 at b1 b2
 have c1:∀h:Ext,cellIn 7 (some (.cells false s1 h.cells))=some (.int .i64 h.base):=fun h=>rfl
 have g1:(((⟨[]⟩:Mem).push (.cells false s1 a.cells)).push (.cells false s1 b.cells)).get (⟨[]⟩:Mem).size=some (.cells false s1 a.cells):=rfl
 have g2:(((⟨[]⟩:Mem).push (.cells false s1 a.cells)).push (.cells false s1 b.cells)).get ((⟨[]⟩:Mem).push (.cells false s1 a.cells)).size=some (.cells false s1 b.cells):=rfl
 refine WM Tryz.func138 Tryz.results138 Tryz.ntmps138 fun _=>?_
 refine J0 (R2 @b1 @b2 ?_)
 refine J0 (R4 @g1 @g2 @c1 @w ?_)
 refine T0 ?_
 first|exact⟨_,Thin.refl _,rfl⟩|exact⟨_,Thin.refl _⟩|exact⟨_,Thin.refl _,rfl,rfl⟩
theorem swap_adjE(P Q:List Ext)(x y:Ext):((P++y::x::Q).set (P.length+1) y).set P.length x=P++x::y::Q:=by
 rw[qz _ _ (by omega),show P.length+1-P.length=1 by omega,List.set_cons_succ,qB,set_mid]
theorem at_midE(P Q:List Ext)(x:Ext):(P++x::Q)[P.length]?=some x:=by simp
theorem at_midE1(P Q:List Ext)(x y:Ext):(P++y::x::Q)[P.length+1]?=some x:=by
 rw[List.getElem?_append_right (by omega)]
 simp
theorem inse_spec(g n c:Nat)(M:Mem)(A X B:List Ext)(hg:Zx M g (A++X++B))(hn:(A++X++B).length=n)(hn2:n≤1000000)(hs:SmallE (A++X++B)):
 Abs.Spec qc 267 [.slice (some ⟨g,0,none⟩) n c,.int .i64 (A.length:Nat),.int .i64 ((A.length+X.length:Nat):Int),cmpE] M
  fun u M'=>u=.tuple #[]∧(∃R,Stable V1 X R∧Zx M' g (A++R++B))∧Only [g] M M'∧M'.size=M.size:=by
 unfold cmpE
 refine VE Tryz.func267 Tryz.results267 Tryz.ntmps267 fun hc hx k=>?_
 have hlen:A.length+X.length+B.length=n:=by rw[←hn];simp only[qd]
 have w0:IntKind.i64.wrap (((A.length:Nat):Int)+1)=((A.length+1:Nat):Int):=by rw[XJ (by omega) (by omega)];omega
 refine J0 (R1 @w0 ?_)
 refine Ja (JD (fun j f M'=>∃(i:Nat)(R Q:List Ext),j=n+1-i∧f=[(0,.slice (some ⟨g,0,none⟩) n c),(1,.int .i64 (A.length:Nat)),(2,.int .i64 ((A.length+X.length:Nat):Int)),(3,.func (.func 138) #[] #[]),(8,.int .i64 (i:Nat))]∧
  i≤n+1∧((i=A.length+R.length∧R≠ [])∨(X=[]∧i=A.length+1))∧(∃X1,X=X1++Q∧Stable V1 X1 R)∧Zx M' g (A++R++Q++B)∧Only [g] M M'∧M'.size=M.size) (n+1-(A.length+1)) ?_ ?_)
 ·refine JK [0,1,2,3,8] ?_
  cases hX:X with
  |nil=>exact⟨M,Thin.refl _,A.length+1,[],[],rfl,by simp,by omega,.inr ⟨rfl,rfl⟩,⟨[],rfl,Stable.refl _ qx.nil⟩,by rw[hX]at hg;simpa using hg,Only.refl _ _,rfl⟩
  |cons x Q=>exact⟨M,Thin.refl _,A.length+1,[x],Q,rfl,by simp,by rw[hX]at hlen;simp only[qy]at hlen;omega,.inl ⟨rfl,by simp⟩,⟨[x],rfl,Stable.refl _ (List.pairwise_singleton _ _)⟩,by rw[hX]at hg;simpa using hg,Only.refl _ _,rfl⟩
 ·rintro j f M' ⟨i,R,Q,rfl,rfl,hi,hiR,⟨X1,hX1,hst⟩,hg',ho,hsz⟩
  refine J0 (J0 (R0 ?_))
  refine CC (decide ((i:Int)<((A.length+X.length:Nat):Int))) (fun h=>J6 ?_) (fun h=>JE ?_)
  ·have h:=of_decide_eq_true h
   obtain⟨hiA,hRne⟩:i=A.length+R.length∧R≠ []:=by
    rcases hiR with h1|⟨h1,h2⟩
    ·exact h1
    ·rw[h1,qr]at h;omega
   have hl1:=hst.len
   obtain⟨x,Q',rfl⟩:∃x Q',Q=x::Q':=by
    cases Q with
    |nil=>rw[hX1,qf]at h;omega
    |cons x Q'=>exact⟨x,Q',rfl⟩
   have hXl:X.length=X1.length+(Q'.length+1):=by rw[hX1];simp
   have hsm:∀y,y∈R∨y=x→ -1099511627776≤y.base∧y.base≤1099511627776:=fun y hy=>hs y (by
    rw[hX1]
    rcases hy with hy|rfl
    ·rw[hst.mem]at hy;simp[hy]
    ·simp)
   simp only[zZ,reduceIte,yQ,yW,yX,yZ,yJ,yK,yV]
   refine XQ (fun f M2=>∃R2,f=[(0,.slice (some ⟨g,0,none⟩) n c),(1,.int .i64 (A.length:Nat)),(2,.int .i64 ((A.length+X.length:Nat):Int)),(3,.func (.func 138) #[] #[]),(8,.int .i64 (i:Nat))]∧Stable V1 (X1++[x]) R2∧Zx M2 g (A++R2++Q'++B)∧Only [g] M M2∧M2.size=M.size) ?_ ?_
   ·refine Ja (J0 (R0 ?_))
    refine Ja (JD (fun jj f M2=>∃(j:Nat)(R1 R2:List Ext),jj=j∧f=[(0,.slice (some ⟨g,0,none⟩) n c),(1,.int .i64 (A.length:Nat)),(2,.int .i64 ((A.length+X.length:Nat):Int)),(3,.func (.func 138) #[] #[]),(8,.int .i64 (i:Nat)),(9,.int .i64 (j:Nat))]∧
     R=R1++R2∧j=A.length+R1.length∧(∀y∈R2,x.base<y.base)∧Zx M2 g (A++R1++x::R2++Q'++B)∧Only [g] M M2∧M2.size=M.size) i ?_ ?_)
    ·refine JK [0,1,2,3,8,9] ?_
     exact⟨M',Thin.refl _,i,R,[],rfl,rfl,by simp,hiA,by simp,by simpa using hg',ho,hsz⟩
    ·rintro j f M2 ⟨_,R1,R2,rfl,rfl,hRR,hj,hgt,hg2,ho2,hsz2⟩
     have done:(∀y∈R1,y.base≤x.base)→∀(f:AL),AL.get f 0=some (.slice (some ⟨g,0,none⟩) n c)→AL.get f 1=some (.int .i64 (A.length:Nat))→AL.get f 2=some (.int .i64 ((A.length+X.length:Nat):Int))→AL.get f 3=some (.func (.func 138) #[] #[])→AL.get f 8=some (.int .i64 (i:Nat))→
      @JoinM f M2 ⟨fun f M2=>∃R2,f=[(0,.slice (some ⟨g,0,none⟩) n c),(1,.int .i64 (A.length:Nat)),(2,.int .i64 ((A.length+X.length:Nat):Int)),(3,.func (.func 138) #[] #[]),(8,.int .i64 (i:Nat))]∧Stable V1 (X1++[x]) R2∧Zx M2 g (A++R2++Q'++B)∧Only [g] M M2∧M2.size=M.size⟩:=fun hle f h0 h1 h2 h3 h8=>by
      refine⟨[0,1,2,3,8],?_⟩
      simp only[keepF,h0,h1,h2,h3,h8,zZ,reduceIte,yQ,yW,yX,yZ,yJ,yK,yV]
      have hst2:Stable V1 (R++[x]) (R1++x::R2):=by
       rw[hRR]
       exact UH V1 (by rw[←hRR];exact hst.rising) (fun y hy=>hle y hy) (fun y hy=>hgt y hy)
      have hst3:Stable V1 (X1++[x]) (R1++x::R2):=hst2.of_keys V1 (fun k=>by rw[Xb,Xb,hst.keys]) (by simp[hst.len])
      exact⟨M2,Thin.refl _,R1++x::R2,hst3,by simpa using hg2,ho2,hsz2⟩
     refine J0 (J0 (Xg hmix 14 (by kernel_rfl) (by kernel_rfl) ?_))
     rcases List.eq_nil_or_concat R1 with rfl|⟨R1',y,rfl⟩
     ·have q1:decide ((A.length:Int)<(j:Int))=false:=decide_eq_false (by rw[hj];simp)
      refine S1 @q1 ?_
      refine CF (JE ?_)
      simp only[zZ,reduceIte,yQ,yW,yX,yZ,yJ,yK,yV]
      exact done (by simp) _ rfl rfl rfl rfl rfl
     ·obtain⟨P,hP⟩:∃P,P=A++R1':=⟨_,rfl⟩
      obtain⟨T,hT⟩:∃T,T=R2++Q'++B:=⟨_,rfl⟩
      have hL:A++R1'.concat y++x::R2++Q'++B=P++y::x::T:=by rw[hP,hT];simp
      rw[hL]at hg2
      have hjP:j=P.length+1:=by rw[hj,hP];simp;omega
      have hn3:P.length+1<n:=by
       have e:=congrArg List.length hRR
       simp only[qd,List.length_concat]at e
       rw[hP,qd]
       omega
      have q1:decide ((A.length:Int)<(j:Int))=true:=decide_eq_true (by rw[hjP,hP,qd];omega)
      have r1:=exl_row hg2 (at_midE1 P T x y)
      have r0:=exl_row hg2 (at_midE P (x::T) y)
      have w1:IntKind.i64.wrap ((j:Int)-1)=((P.length:Nat):Int):=by rw[XJ (by omega) (by omega)];omega
      have z1:(0:Int)≤(j:Int):=by omega
      have z2:(j:Int)<(n:Int):=by omega
      have z3:(0:Int)≤((P.length:Nat):Int):=by omega
      have z4:((P.length:Nat):Int)<(n:Int):=by omega
      rw[←hjP]at r1
      refine S9 @q1 @w1 @z1 @z2 @z3 @z4 @and_self @r0 @r1 ?_
      have sx:=hsm x (.inr rfl)
      have sy:=hsm y (.inl (by rw[hRR];simp))
      refine⟨by kernel_rfl,_,cmpe_spec x y sx sy M2,?_⟩
      rintro _ M9 ⟨rfl,e9⟩;replace e9:=e9.symm;subst e9
      refine⟨by decide,?_⟩
      refine S0 ?_
      refine CC (decide (x.base-y.base<0)) (fun h=>J6 ?_) (fun h=>JE ?_)
      ·have h:=of_decide_eq_true h
       obtain⟨M3,hp3,hg3,ho3,hs3⟩:=exl_put hg2 (show(P++y::x::T)[j]?=some x by rw[hjP];exact at_midE1 P T x y) y
       have hx3:((P++y::x::T).set j y)[P.length]?=some y:=by
        rw[List.getElem?_set_ne (by omega)];exact at_midE P (x::T) y
       obtain⟨M4,hp4,hg4,ho4,hs4⟩:=exl_put hg3 hx3 x
       rw[hjP,swap_adjE]at hg4
       simp only[zZ,reduceIte,yQ,yW,yX,yZ,yJ,yK,yV]
       refine J0 (Ja (CW_draw4 hmix 15 [2,3,4] (by kernel_rfl) ?_))
       simp only[sQB,Z6,Option.bind_some,zZ,reduceIte,yQ,yW,yX,yZ,yJ,yK,yV,zDk,Jc,Jd,J9,J8,Zy,w1,z1,z2,z3,z4,and_self,r0,r1,hp3,hp4]
       refine⟨⟨⟨_,rfl⟩,⟨_,rfl⟩,⟨_,rfl⟩⟩,?_⟩
       refine R1 @w1 ?_
       refine JK [0,1,2,3,8,9] ?_
       refine⟨M4,Thin.refl _,P.length,⟨P.length,R1',y::R2,rfl,rfl,by rw[hRR];simp,by rw[hP,qd],?_,?_,ho2.trans (ho3.trans ho4),by omega⟩,by omega⟩
       ·intro z hz
        rcases qh.1 hz with rfl|hz
        ·omega
        ·exact hgt z hz
       ·have e:A++R1'++x::(y::R2)++Q'++B=P++x::y::T:=by rw[hP,hT];simp
        rw[e];exact hg4
      ·have h:=of_decide_eq_false h
       simp only[zZ,reduceIte,yQ,yW,yX,yZ,yJ,yK,yV]
       refine done (fun z hz=>?_) _ rfl rfl rfl rfl rfl
       have hr:=hst.rising
       rw[hRR]at hr
       have hr:=(Rising.parts V1 hr).1
       rw[List.concat_eq_append]at hr hz
       rcases qA.1 hz with hz|hz
       ·have:=(Rising.parts V1 hr).2.2 z hz y (by simp)
        unfold V1 at this
        omega
       ·simp only[qq]at hz
        rw[hz];omega
   ·rintro _ M2 ⟨R2,rfl,hst2,hg2,ho2,hsz2⟩
    have hl2:=hst2.len
    have w1:IntKind.i64.wrap ((i:Int)+1)=((i+1:Nat):Int):=by rw[XJ (by omega) (by omega)];omega
    refine R1 @w1 ?_
    refine JK [0,1,2,3,8] ?_
    refine⟨M2,Thin.refl _,n+1-(i+1),⟨i+1,R2,Q',rfl,rfl,by omega,.inl ⟨?_,?_⟩,⟨X1++[x],by rw[hX1];simp,hst2⟩,hg2,ho2,hsz2⟩,by omega⟩
    ·rw[hl2,hiA];simp;omega
    ·intro e;rw[e]at hl2;simp at hl2
  ·have h:=of_decide_eq_false h
   have hl1:=hst.len
   have hQ:Q=[]:=by
    rcases hiR with⟨h1,h2⟩|⟨h1,h2⟩
    ·have:Q.length=0:=by rw[hX1,qd]at h;omega
     exact qj this
    ·rw[h1]at hX1;exact(List.append_eq_nil_iff.1 hX1.symm).2
   simp only[zZ,reduceIte,yQ,yW,yX,yZ,yJ,yK,yV,zDk,Jc,Jd,J9,J8,Zy,mEnd,sAnswer,sAnswer.sRes]
   rw[hQ,qf]at hg' hX1
   exact⟨M',Thin.refl _,⟨R,by rw[hX1];exact hst,hg'⟩,ho,hsz⟩
theorem blen_spec(x:Int)(h0:0≤x)(h1:x≤18446744073709551615)(m:Mem):
 Abs.Spec qc 146 [.int .u64 x] m fun u M=>u=.int .i64 (Lib.bitLen x.toNat)∧M=m:=
 Abs.Spec.of_flat (by simp[flat]) rfl fun w=>(Tryz.bits_Len x w h0 h1).mono fun e w' h=>⟨h.1,by rw[h.2];exact Below.refl _ _⟩
theorem pdqe_spec(g n c:Nat)(lim:Int)(M:Mem)(L:List Ext)(hg:Zx M g L)(hn:L.length=n)(hn2:n≤12)(hs:SmallE L):
 Abs.Spec qc 209 [.slice (some ⟨g,0,none⟩) n c,.int .i64 0,.int .i64 (n:Nat),.int .i64 lim,cmpE] M
  fun u M'=>u=.tuple #[]∧(∃R,Stable V1 L R∧Zx M' g R)∧Only [g] M M'∧M'.size=M.size:=by
 unfold cmpE
 refine VE Tryz.func209 Tryz.results209 Tryz.ntmps209 fun hc hx k=>?_
 have w0:IntKind.i64.wrap ((n:Int)-0)=(n:Int):=by rw[XJ (by omega) (by omega)];omega
 have q1:decide ((n:Int)≤12)=true:=decide_eq_true (by omega)
 have is:=inse_spec g n c M [] L [] (by simpa using hg) (by simpa using hn) (by omega) (by simpa using hs)
 simp only[qr,Nat.zero_add,hn,qp,qf]at is
 unfold cmpE at is
 refine J0 (R0 ?_)
 refine J0 (R0 ?_)
 refine Ja (JD (fun j f M'=>j=0∧f=[(0,.slice (some ⟨g,0,none⟩) n c),(1,.int .i64 0),(2,.int .i64 (n:Nat)),(4,.func (.func 138) #[] #[])]∧M'=M) 0 ?_ ?_)
 ·refine JK [0,1,2,4] ?_
  exact⟨M,Thin.refl _,rfl⟩
 ·rintro j f M' ⟨rfl,rfl,e9⟩
  replace e9:=e9.symm;subst e9
  refine Ja (J0 (R1 @w0 ?_))
  refine J0 (J0 (R1 @q1 ?_))
  refine CT (J0 (R0 ?_))
  refine⟨by kernel_rfl,_,is,?_⟩
  rintro _ M2 ⟨rfl,hR,ho,hsz⟩
  refine S0 ?_
  refine T0 ?_
  exact⟨_,Thin.refl _,hR,ho,hsz⟩
theorem sorte_spec(g n c:Nat)(M:Mem)(L:List Ext)(hg:Zx M g L)(hn:L.length=n)(hn2:n≤12)(hs:SmallE L):
 Abs.Spec qc 137 [.slice (some ⟨g,0,none⟩) n c,cmpE] M
  fun u M'=>u=.tuple #[]∧(∃R,Stable V1 L R∧Zx M' g R)∧Only [g] M M'∧M'.size=M.size:=by
 unfold cmpE
 refine VE Tryz.func137 Tryz.results137 Tryz.ntmps137 fun hc hx k=>?_
 have bl:=fun m=>blen_spec (n:Int) (by omega) (by omega) m
 have w0:IntKind.u64.wrap (n:Int)=(n:Int):=by unfold IntKind.wrap;simp[IntKind.bits,IntKind.signed];omega
 have pq:=fun lim=>pdqe_spec g n c lim M L hg hn hn2 hs
 unfold cmpE at pq
 refine J0 (R0 ?_)
 refine R1 @w0 ?_
 refine K0 (bl _) ?_
 refine⟨by kernel_rfl,_,pq _,?_⟩
 rintro _ M2 ⟨rfl,hR,ho,hsz⟩
 simp only[zZ,reduceIte,yQ,yW,yX,yZ,yJ,yK,yV,zDk,Jc,Jd,J9,J8,Zy,mEnd,sAnswer,sAnswer.sRes]
 exact⟨_,Thin.refl _,hR,ho,hsz⟩
theorem new_ext0:JF qc 128 0 []=some (.cells false 8 []):=by kernel_rfl
theorem es_eql0(cx:Bool):aBin qc .eql 128 cx (.slice none 0 0) (.slice none 0 0)=some (.bool true):=by cases cx<;>kernel_rfl
theorem es_eql(cx:Bool)(a:Addr)(n c:Nat):aBin qc .eql 128 cx (.slice (some a) n c) (.slice none 0 0)=some (.bool false):=by cases cx<;>kernel_rfl
theorem eclone_spec(K:Nat)(M:Mem)(V:Value)(L:List Ext)(h:Vd K M V L)(hl:L.length≤1000000):
 Abs.Spec qc 136 [V] M fun u M'=>Vd M.size M' u L∧Only [] M M'∧M.size≤M'.size:=by
 refine VE Tryz.func136 Tryz.results136 Tryz.ntmps136 fun hc hx k=>?_
 refine J0 (R0 ?_)
 rcases h with⟨rfl,rfl⟩|⟨h0,g,hgk,rfl,hg⟩
 ·refine J0 (J0 (R1 @es_eql0 ?_))
  refine CT (J0 (R0 ?_))
  refine T0 ?_
  exact⟨M,Thin.refl _,.inl ⟨rfl,rfl⟩,Only.refl _ _,qt _⟩
 ·refine J0 (J0 (R1 @es_eql ?_))
  refine CF (J6 ?_)
  simp only[zZ,reduceIte,yQ,yW,yX,yZ,yJ,yK,yV]
  have hgl:=Mem.get_lt hg
  have hpos:=List.length_pos_iff.2 h0
  have hby:=Ext_bytes
  have hsrc:=src_block (P:=qc) (tx:=128) (m:=M.push (.cells false 8 [])) (c:=L.length) (k:=L.length) (N:=8) (news:=L.flatMap Ext.cells) (ro:=false) (s:=8) Tryz.underlying128 (by rw[Mem.get_push_old hgl];exact hg) (by rw[flat_length (fun a=>ext_len a)])
  have ha:=gapp (P:=qc) (N:=8) (k:=L.length) (n:=0) (g:=M.size) (cs:=[]) (news:=L.flatMap Ext.cells) Tryz.underlying128 inf_Ext Ext_zero sz_Ext rfl (M.push (.cells false 8 [])) hsrc (by omega)
   (Mem.get_push_new M _) rfl (by rw[Nat.zero_add];have:=Nat.mul_le_mul hl hby;omega) (by omega)
  rw[Mem.size_push,Nat.zero_add,qp]at ha
  refine J0 (R2 @new_ext0 @ha ?_)
  refine T0 ?_
  refine⟨_,Thin.refl _,.inr ⟨h0,M.size+1,by omega,rfl,?_⟩,fun b y _ hy=>?_,by simp only[Mem.size_push,Mem.size_set];omega⟩
  ·have:=Mem.get_push_new ((M.push (.cells false 8 [])).set M.size none) (.cells false 8 (L.flatMap Ext.cells))
   rw[Mem.size_set,Mem.size_push]at this
   exact this
  ·have:=Mem.get_lt hy
   rw[Mem.get_push_old (by rw[Mem.size_set,Mem.size_push];omega),Mem.get_set_ne (by omega),Mem.get_push_old this];exact hy
theorem inse_nil(M:Mem):
 Abs.Spec qc 267 [.slice none 0 0,.int .i64 0,.int .i64 0,cmpE] M fun u M'=>u=.tuple #[]∧M'=M:=by
 unfold cmpE
 refine VE Tryz.func267 Tryz.results267 Tryz.ntmps267 fun hc hx k=>?_
 have w0:IntKind.i64.wrap ((0:Int)+1)=1:=by decide
 have q1:decide ((1:Int)<0)=false:=rfl
 refine J0 (R1 @w0 ?_)
 refine Ja (JD (fun j f M'=>j=0∧f=[(0,.slice none 0 0),(1,.int .i64 0),(2,.int .i64 0),(3,.func (.func 138) #[] #[]),(8,.int .i64 1)]∧M'=M) 0 ?_ ?_)
 ·refine JK [0,1,2,3,8] ?_
  exact⟨M,Thin.refl _,rfl⟩
 ·rintro j f M' ⟨rfl,rfl,e9⟩
  replace e9:=e9.symm;subst e9
  refine J0 (J0 (R2 @q1 @decide_false ?_))
  refine CF (JE ?_)
  simp only[zZ,reduceIte,yQ,yW,yX,yZ,yJ,yK,yV,zDk,Jc,Jd,J9,J8,Zy,mEnd,sAnswer,sAnswer.sRes]
  exact⟨_,Thin.refl _,rfl⟩
theorem pdqe_nil(lim:Int)(M:Mem):
 Abs.Spec qc 209 [.slice none 0 0,.int .i64 0,.int .i64 0,.int .i64 lim,cmpE] M fun u M'=>u=.tuple #[]∧M'=M:=by
 have is:=inse_nil M
 unfold cmpE at is ⊢
 refine VE Tryz.func209 Tryz.results209 Tryz.ntmps209 fun hc hx k=>?_
 have w0:IntKind.i64.wrap ((0:Int)-0)=0:=by decide
 have q1:decide ((0:Int)≤12)=true:=rfl
 refine J0 (R0 ?_)
 refine J0 (R0 ?_)
 refine Ja (JD (fun j f M'=>j=0∧f=[(0,.slice none 0 0),(1,.int .i64 0),(2,.int .i64 0),(4,.func (.func 138) #[] #[])]∧M'=M) 0 ?_ ?_)
 ·refine JK [0,1,2,4] ?_
  exact⟨M,Thin.refl _,rfl⟩
 ·rintro j f M' ⟨rfl,rfl,e9⟩
  replace e9:=e9.symm;subst e9
  refine Ja (J0 (R1 @w0 ?_))
  refine J0 (J0 (R2 @q1 @decide_true ?_))
  refine CT (J0 (R0 ?_))
  refine⟨by kernel_rfl,_,is,?_⟩
  rintro _ M2 ⟨rfl,rfl⟩
  refine S0 ?_
  refine T0 ?_
  exact⟨_,Thin.refl _,rfl⟩
theorem sorte_nil(M:Mem):
 Abs.Spec qc 137 [.slice none 0 0,cmpE] M fun u M'=>u=.tuple #[]∧M'=M:=by
 have pq:=fun lim=>pdqe_nil lim M
 unfold cmpE at pq ⊢
 refine VE Tryz.func137 Tryz.results137 Tryz.ntmps137 fun hc hx k=>?_
 have bl:=fun m=>blen_spec 0 (by omega) (by omega) m
 have w0:IntKind.u64.wrap 0=0:=by decide
 refine J0 (R0 ?_)
 refine R1 @w0 ?_
 refine K0 (bl _) ?_
 refine⟨by kernel_rfl,_,pq _,?_⟩
 rintro _ M2 ⟨rfl,rfl⟩
 simp only[zZ,reduceIte,yQ,yW,yX,yZ,yJ,yK,yV,zDk,Jc,Jd,J9,J8,Zy,mEnd,sAnswer,sAnswer.sRes]
 exact⟨_,Thin.refl _,rfl⟩
theorem sorte_own(K:Nat)(M:Mem)(V:Value)(L:List Ext)(h:Vd K M V L)(hl:L.length≤12)(hs:SmallE L):
 Abs.Spec qc 137 [V,cmpE] M
  fun u M'=>u=.tuple #[]∧(∃R,Stable V1 L R∧Vd K M' V R)∧(∀b y,ZT V≠some b→M.get b=some y→M'.get b=some y)∧M'.size=M.size:=by
 rcases h with⟨rfl,rfl⟩|⟨h0,g,hk,rfl,hg⟩
 ·refine(sorte_nil M).mono ?_
  rintro u M' ⟨rfl,rfl⟩
  exact⟨rfl,⟨[],Stable.refl _ qx.nil,OwnL.nil _ _⟩,fun _ _ _ h=>h,rfl⟩
 ·refine(sorte_spec g L.length L.length M L hg rfl hl hs).mono ?_
  rintro u M' ⟨rfl,⟨R,hR,hg'⟩,ho,hsz⟩
  have hlen:=hR.len
  refine⟨rfl,⟨R,hR,.inr ⟨fun e=>h0 (qj (by rw[←hlen,e];rfl)),g,hk,by rw[hlen],hg'⟩⟩,fun b y hb hy=>ho b y (by simp;exact fun e=>hb (by rw[e];rfl)) hy,hsz⟩
def hid(h:Header):Int:=h.id
def SmallH(L:List Header):Prop:=∀h∈L, -1099511627776≤h.id∧h.id≤1099511627776
theorem hdl_len(h:Header):h.cells.length=7:=rfl
theorem hdl_one(h:Header):Jn h.cells=true:=rfl
def Zw(M:Mem)(g:Nat)(L:List Header):Prop:=M.get g=some (.cells false 7 (L.flatMap Header.cells))
theorem hdl_row{M:Mem}{g:Nat}{L:List Header}(h:Zw M g L){k:Nat}{x:Header}(hx:L[k]?=some x):Jm 7 (k*7) (M.get g)=some (.agg x.cells.toArray):=by
 rw[show M.get g=_ from h]
 exact rowIn_at (n:=7) (fun a _=>hdl_len a) hx false 7
theorem hdl_put{M:Mem}{g:Nat}{L:List Header}(h:Zw M g L){k:Nat}{x:Header}(hx:L[k]?=some x)(y:Header):∃M',Jk 7 M g (k*7) y.cells (M.get g)=some M'∧Zw M' g (L.set k y)∧Only [g] M M'∧M'.size=M.size:=by
 refine⟨_,?_,Mem.get_set_same h _,Only.set (by simp) _,Mem.size_set _ _ _⟩
 rw[show M.get g=_ from h]
 exact putIn_at (fun a _=>hdl_len a) hx y (hdl_len y) (hdl_one y) M g 7
def cmpH(cf:FuncId):Value:=.func (.func cf) #[] #[]
def CmpOk(cf:FuncId):Prop:=Q9 qc cf=true∧∀a b:Header,(-1099511627776≤a.id∧a.id≤1099511627776)→(-1099511627776≤b.id∧b.id≤1099511627776)→∀m,
    Abs.Spec qc cf [.agg a.cells.toArray,.agg b.cells.toArray] m fun u M=>u=.int .i64 (a.id-b.id)∧M=m
theorem swap_adjH(P Q:List Header)(x y:Header):((P++y::x::Q).set (P.length+1) y).set P.length x=P++x::y::Q:=by
 rw[qz _ _ (by omega),show P.length+1-P.length=1 by omega,List.set_cons_succ,qB,set_mid]
theorem at_midH(P Q:List Header)(x:Header):(P++x::Q)[P.length]?=some x:=by simp
theorem at_midH1(P Q:List Header)(x y:Header):(P++y::x::Q)[P.length+1]?=some x:=by
 rw[List.getElem?_append_right (by omega)]
 simp
theorem insh_spec(cf:FuncId)(hcf:CmpOk cf)(g n c:Nat)(M:Mem)(A X B:List Header)(hg:Zw M g (A++X++B))(hn:(A++X++B).length=n)(hn2:n≤1000000)(hs:SmallH (A++X++B)):
 Abs.Spec qc 217 [.slice (some ⟨g,0,none⟩) n c,.int .i64 (A.length:Nat),.int .i64 ((A.length+X.length:Nat):Int),cmpH cf] M
  fun u M'=>u=.tuple #[]∧(∃R,Stable hid X R∧Zw M' g (A++R++B))∧Only [g] M M'∧M'.size=M.size:=by
 unfold cmpH
 refine VE Tryz.func217 Tryz.results217 Tryz.ntmps217 fun hc hx k=>?_
 have hlen:A.length+X.length+B.length=n:=by rw[←hn];simp only[qd]
 have w0:IntKind.i64.wrap (((A.length:Nat):Int)+1)=((A.length+1:Nat):Int):=by rw[XJ (by omega) (by omega)];omega
 refine J0 (R1 @w0 ?_)
 refine Ja (JD (fun j f M'=>∃(i:Nat)(R Q:List Header),j=n+1-i∧f=[(0,.slice (some ⟨g,0,none⟩) n c),(1,.int .i64 (A.length:Nat)),(2,.int .i64 ((A.length+X.length:Nat):Int)),(3,.func (.func cf) #[] #[]),(8,.int .i64 (i:Nat))]∧
  i≤n+1∧((i=A.length+R.length∧R≠ [])∨(X=[]∧i=A.length+1))∧(∃X1,X=X1++Q∧Stable hid X1 R)∧Zw M' g (A++R++Q++B)∧Only [g] M M'∧M'.size=M.size) (n+1-(A.length+1)) ?_ ?_)
 ·refine JK [0,1,2,3,8] ?_
  cases hX:X with
  |nil=>exact⟨M,Thin.refl _,A.length+1,[],[],rfl,by simp,by omega,.inr ⟨rfl,rfl⟩,⟨[],rfl,Stable.refl _ qx.nil⟩,by rw[hX]at hg;simpa using hg,Only.refl _ _,rfl⟩
  |cons x Q=>exact⟨M,Thin.refl _,A.length+1,[x],Q,rfl,by simp,by rw[hX]at hlen;simp only[qy]at hlen;omega,.inl ⟨rfl,by simp⟩,⟨[x],rfl,Stable.refl _ (List.pairwise_singleton _ _)⟩,by rw[hX]at hg;simpa using hg,Only.refl _ _,rfl⟩
 ·rintro j f M' ⟨i,R,Q,rfl,rfl,hi,hiR,⟨X1,hX1,hst⟩,hg',ho,hsz⟩
  refine J0 (J0 (R0 ?_))
  refine CC (decide ((i:Int)<((A.length+X.length:Nat):Int))) (fun h=>J6 ?_) (fun h=>JE ?_)
  ·have h:=of_decide_eq_true h
   obtain⟨hiA,hRne⟩:i=A.length+R.length∧R≠ []:=by
    rcases hiR with h1|⟨h1,h2⟩
    ·exact h1
    ·rw[h1,qr]at h;omega
   have hl1:=hst.len
   obtain⟨x,Q',rfl⟩:∃x Q',Q=x::Q':=by
    cases Q with
    |nil=>rw[hX1,qf]at h;omega
    |cons x Q'=>exact⟨x,Q',rfl⟩
   have hXl:X.length=X1.length+(Q'.length+1):=by rw[hX1];simp
   have hsm:∀y,y∈R∨y=x→ -1099511627776≤y.id∧y.id≤1099511627776:=fun y hy=>hs y (by
    rw[hX1]
    rcases hy with hy|rfl
    ·rw[hst.mem]at hy;simp[hy]
    ·simp)
   simp only[zZ,reduceIte,yQ,yW,yX,yZ,yJ,yK,yV]
   refine XQ (fun f M2=>∃R2,f=[(0,.slice (some ⟨g,0,none⟩) n c),(1,.int .i64 (A.length:Nat)),(2,.int .i64 ((A.length+X.length:Nat):Int)),(3,.func (.func cf) #[] #[]),(8,.int .i64 (i:Nat))]∧Stable hid (X1++[x]) R2∧Zw M2 g (A++R2++Q'++B)∧Only [g] M M2∧M2.size=M.size) ?_ ?_
   ·refine Ja (J0 (R0 ?_))
    refine Ja (JD (fun jj f M2=>∃(j:Nat)(R1 R2:List Header),jj=j∧f=[(0,.slice (some ⟨g,0,none⟩) n c),(1,.int .i64 (A.length:Nat)),(2,.int .i64 ((A.length+X.length:Nat):Int)),(3,.func (.func cf) #[] #[]),(8,.int .i64 (i:Nat)),(9,.int .i64 (j:Nat))]∧
     R=R1++R2∧j=A.length+R1.length∧(∀y∈R2,x.id<y.id)∧Zw M2 g (A++R1++x::R2++Q'++B)∧Only [g] M M2∧M2.size=M.size) i ?_ ?_)
    ·refine JK [0,1,2,3,8,9] ?_
     exact⟨M',Thin.refl _,i,R,[],rfl,rfl,by simp,hiA,by simp,by simpa using hg',ho,hsz⟩
    ·rintro j f M2 ⟨_,R1,R2,rfl,rfl,hRR,hj,hgt,hg2,ho2,hsz2⟩
     have done:(∀y∈R1,y.id≤x.id)→∀(f:AL),AL.get f 0=some (.slice (some ⟨g,0,none⟩) n c)→AL.get f 1=some (.int .i64 (A.length:Nat))→AL.get f 2=some (.int .i64 ((A.length+X.length:Nat):Int))→AL.get f 3=some (.func (.func cf) #[] #[])→AL.get f 8=some (.int .i64 (i:Nat))→
      @JoinM f M2 ⟨fun f M2=>∃R2,f=[(0,.slice (some ⟨g,0,none⟩) n c),(1,.int .i64 (A.length:Nat)),(2,.int .i64 ((A.length+X.length:Nat):Int)),(3,.func (.func cf) #[] #[]),(8,.int .i64 (i:Nat))]∧Stable hid (X1++[x]) R2∧Zw M2 g (A++R2++Q'++B)∧Only [g] M M2∧M2.size=M.size⟩:=fun hle f h0 h1 h2 h3 h8=>by
      refine⟨[0,1,2,3,8],?_⟩
      simp only[keepF,h0,h1,h2,h3,h8,zZ,reduceIte,yQ,yW,yX,yZ,yJ,yK,yV]
      have hst2:Stable hid (R++[x]) (R1++x::R2):=by
       rw[hRR]
       exact UH hid (by rw[←hRR];exact hst.rising) (fun y hy=>hle y hy) (fun y hy=>hgt y hy)
      have hst3:Stable hid (X1++[x]) (R1++x::R2):=hst2.of_keys hid (fun k=>by rw[Xb,Xb,hst.keys]) (by simp[hst.len])
      exact⟨M2,Thin.refl _,R1++x::R2,hst3,by simpa using hg2,ho2,hsz2⟩
     refine J0 (J0 (Xg hmix 14 (by kernel_rfl) (by kernel_rfl) ?_))
     rcases List.eq_nil_or_concat R1 with rfl|⟨R1',y,rfl⟩
     ·have q1:decide ((A.length:Int)<(j:Int))=false:=decide_eq_false (by rw[hj];simp)
      refine S1 @q1 ?_
      refine CF (JE ?_)
      simp only[zZ,reduceIte,yQ,yW,yX,yZ,yJ,yK,yV]
      exact done (by simp) _ rfl rfl rfl rfl rfl
     ·obtain⟨P,hP⟩:∃P,P=A++R1':=⟨_,rfl⟩
      obtain⟨T,hT⟩:∃T,T=R2++Q'++B:=⟨_,rfl⟩
      have hL:A++R1'.concat y++x::R2++Q'++B=P++y::x::T:=by rw[hP,hT];simp
      rw[hL]at hg2
      have hjP:j=P.length+1:=by rw[hj,hP];simp;omega
      have hn3:P.length+1<n:=by
       have e:=congrArg List.length hRR
       simp only[qd,List.length_concat]at e
       rw[hP,qd]
       omega
      have q1:decide ((A.length:Int)<(j:Int))=true:=decide_eq_true (by rw[hjP,hP,qd];omega)
      have r1:=hdl_row hg2 (at_midH1 P T x y)
      have r0:=hdl_row hg2 (at_midH P (x::T) y)
      have w1:IntKind.i64.wrap ((j:Int)-1)=((P.length:Nat):Int):=by rw[XJ (by omega) (by omega)];omega
      have z1:(0:Int)≤(j:Int):=by omega
      have z2:(j:Int)<(n:Int):=by omega
      have z3:(0:Int)≤((P.length:Nat):Int):=by omega
      have z4:((P.length:Nat):Int)<(n:Int):=by omega
      rw[←hjP]at r1
      refine S9 @q1 @w1 @z1 @z2 @z3 @z4 @and_self @r0 @r1 ?_
      have sx:=hsm x (.inr rfl)
      have sy:=hsm y (.inl (by rw[hRR];simp))
      refine⟨hcf.1,_,hcf.2 x y sx sy M2,?_⟩
      rintro _ M9 ⟨rfl,e9⟩;replace e9:=e9.symm;subst e9
      refine⟨by decide,?_⟩
      refine S0 ?_
      refine CC (decide (x.id-y.id<0)) (fun h=>J6 ?_) (fun h=>JE ?_)
      ·have h:=of_decide_eq_true h
       obtain⟨M3,hp3,hg3,ho3,hs3⟩:=hdl_put hg2 (show(P++y::x::T)[j]?=some x by rw[hjP];exact at_midH1 P T x y) y
       have hx3:((P++y::x::T).set j y)[P.length]?=some y:=by
        rw[List.getElem?_set_ne (by omega)];exact at_midH P (x::T) y
       obtain⟨M4,hp4,hg4,ho4,hs4⟩:=hdl_put hg3 hx3 x
       rw[hjP,swap_adjH]at hg4
       simp only[zZ,reduceIte,yQ,yW,yX,yZ,yJ,yK,yV]
       refine J0 (Ja (CW_draw4 hmix 15 [2,3,4] (by kernel_rfl) ?_))
       simp only[sQB,Z6,Option.bind_some,zZ,reduceIte,yQ,yW,yX,yZ,yJ,yK,yV,zDk,Jc,Jd,J9,J8,Zy,w1,z1,z2,z3,z4,and_self,r0,r1,hp3,hp4]
       refine⟨⟨⟨_,rfl⟩,⟨_,rfl⟩,⟨_,rfl⟩⟩,?_⟩
       refine R1 @w1 ?_
       refine JK [0,1,2,3,8,9] ?_
       refine⟨M4,Thin.refl _,P.length,⟨P.length,R1',y::R2,rfl,rfl,by rw[hRR];simp,by rw[hP,qd],?_,?_,ho2.trans (ho3.trans ho4),by omega⟩,by omega⟩
       ·intro z hz
        rcases qh.1 hz with rfl|hz
        ·omega
        ·exact hgt z hz
       ·have e:A++R1'++x::(y::R2)++Q'++B=P++x::y::T:=by rw[hP,hT];simp
        rw[e];exact hg4
      ·have h:=of_decide_eq_false h
       simp only[zZ,reduceIte,yQ,yW,yX,yZ,yJ,yK,yV]
       refine done (fun z hz=>?_) _ rfl rfl rfl rfl rfl
       have hr:=hst.rising
       rw[hRR]at hr
       have hr:=(Rising.parts hid hr).1
       rw[List.concat_eq_append]at hr hz
       rcases qA.1 hz with hz|hz
       ·have:=(Rising.parts hid hr).2.2 z hz y (by simp)
        unfold hid at this
        omega
       ·simp only[qq]at hz
        rw[hz];omega
   ·rintro _ M2 ⟨R2,rfl,hst2,hg2,ho2,hsz2⟩
    have hl2:=hst2.len
    have w1:IntKind.i64.wrap ((i:Int)+1)=((i+1:Nat):Int):=by rw[XJ (by omega) (by omega)];omega
    refine R1 @w1 ?_
    refine JK [0,1,2,3,8] ?_
    refine⟨M2,Thin.refl _,n+1-(i+1),⟨i+1,R2,Q',rfl,rfl,by omega,.inl ⟨?_,?_⟩,⟨X1++[x],by rw[hX1];simp,hst2⟩,hg2,ho2,hsz2⟩,by omega⟩
    ·rw[hl2,hiA];simp;omega
    ·intro e;rw[e]at hl2;simp at hl2
  ·have h:=of_decide_eq_false h
   have hl1:=hst.len
   have hQ:Q=[]:=by
    rcases hiR with⟨h1,h2⟩|⟨h1,h2⟩
    ·have:Q.length=0:=by rw[hX1,qd]at h;omega
     exact qj this
    ·rw[h1]at hX1;exact(List.append_eq_nil_iff.1 hX1.symm).2
   simp only[zZ,reduceIte,yQ,yW,yX,yZ,yJ,yK,yV,zDk,Jc,Jd,J9,J8,Zy,mEnd,sAnswer,sAnswer.sRes]
   rw[hQ,qf]at hg' hX1
   exact⟨M',Thin.refl _,⟨R,by rw[hX1];exact hst,hg'⟩,ho,hsz⟩
theorem pdqh_spec(cf:FuncId)(hcf:CmpOk cf)(g n c:Nat)(lim:Int)(M:Mem)(L:List Header)(hg:Zw M g L)(hn:L.length=n)(hn2:n≤12)(hs:SmallH L):
 Abs.Spec qc 145 [.slice (some ⟨g,0,none⟩) n c,.int .i64 0,.int .i64 (n:Nat),.int .i64 lim,cmpH cf] M
  fun u M'=>u=.tuple #[]∧(∃R,Stable hid L R∧Zw M' g R)∧Only [g] M M'∧M'.size=M.size:=by
 unfold cmpH
 refine VE Tryz.func145 Tryz.results145 Tryz.ntmps145 fun hc hx k=>?_
 have w0:IntKind.i64.wrap ((n:Int)-0)=(n:Int):=by rw[XJ (by omega) (by omega)];omega
 have q1:decide ((n:Int)≤12)=true:=decide_eq_true (by omega)
 have is:=insh_spec cf hcf g n c M [] L [] (by simpa using hg) (by simpa using hn) (by omega) (by simpa using hs)
 simp only[qr,Nat.zero_add,hn,qp,qf]at is
 unfold cmpH at is
 refine J0 (R0 ?_)
 refine J0 (R0 ?_)
 refine Ja (JD (fun j f M'=>j=0∧f=[(0,.slice (some ⟨g,0,none⟩) n c),(1,.int .i64 0),(2,.int .i64 (n:Nat)),(4,.func (.func cf) #[] #[])]∧M'=M) 0 ?_ ?_)
 ·refine JK [0,1,2,4] ?_
  exact⟨M,Thin.refl _,rfl⟩
 ·rintro j f M' ⟨rfl,rfl,e9⟩
  replace e9:=e9.symm;subst e9
  refine Ja (J0 (R1 @w0 ?_))
  refine J0 (J0 (R1 @q1 ?_))
  refine CT (J0 (R0 ?_))
  refine⟨by kernel_rfl,_,is,?_⟩
  rintro _ M2 ⟨rfl,hR,ho,hsz⟩
  refine S0 ?_
  refine T0 ?_
  exact⟨_,Thin.refl _,hR,ho,hsz⟩
theorem sorth_spec(cf:FuncId)(hcf:CmpOk cf)(g n c:Nat)(M:Mem)(L:List Header)(hg:Zw M g L)(hn:L.length=n)(hn2:n≤12)(hs:SmallH L):
 Abs.Spec qc 66 [.slice (some ⟨g,0,none⟩) n c,cmpH cf] M
  fun u M'=>u=.tuple #[]∧(∃R,Stable hid L R∧Zw M' g R)∧Only [g] M M'∧M'.size=M.size:=by
 unfold cmpH
 refine VE Tryz.func66 Tryz.results66 Tryz.ntmps66 fun hc hx k=>?_
 have bl:=fun m=>blen_spec (n:Int) (by omega) (by omega) m
 have w0:IntKind.u64.wrap (n:Int)=(n:Int):=by unfold IntKind.wrap;simp[IntKind.bits,IntKind.signed];omega
 have pq:=fun lim=>pdqh_spec cf hcf g n c lim M L hg hn hn2 hs
 unfold cmpH at pq
 refine J0 (R0 ?_)
 refine R1 @w0 ?_
 refine K0 (bl _) ?_
 refine⟨by kernel_rfl,_,pq _,?_⟩
 rintro _ M2 ⟨rfl,hR,ho,hsz⟩
 simp only[zZ,reduceIte,yQ,yW,yX,yZ,yJ,yK,yV,zDk,Jc,Jd,J9,J8,Zy,mEnd,sAnswer,sAnswer.sRes]
 exact⟨_,Thin.refl _,hR,ho,hsz⟩
abbrev ZV(K:Nat)(M:Mem)(V:Value)(L:List Header):Prop:=OwnL Header.cells 7 K M V L
theorem insh_nil(cf:FuncId)(hcf:CmpOk cf)(M:Mem):
 Abs.Spec qc 217 [.slice none 0 0,.int .i64 0,.int .i64 0,cmpH cf] M fun u M'=>u=.tuple #[]∧M'=M:=by
 unfold cmpH
 refine VE Tryz.func217 Tryz.results217 Tryz.ntmps217 fun hc hx k=>?_
 have w0:IntKind.i64.wrap ((0:Int)+1)=1:=by decide
 have q1:decide ((1:Int)<0)=false:=rfl
 refine J0 (R1 @w0 ?_)
 refine Ja (JD (fun j f M'=>j=0∧f=[(0,.slice none 0 0),(1,.int .i64 0),(2,.int .i64 0),(3,.func (.func cf) #[] #[]),(8,.int .i64 1)]∧M'=M) 0 ?_ ?_)
 ·refine JK [0,1,2,3,8] ?_
  exact⟨M,Thin.refl _,rfl⟩
 ·rintro j f M' ⟨rfl,rfl,e9⟩
  replace e9:=e9.symm;subst e9
  refine J0 (J0 (R2 @q1 @decide_false ?_))
  refine CF (JE ?_)
  simp only[zZ,reduceIte,yQ,yW,yX,yZ,yJ,yK,yV,zDk,Jc,Jd,J9,J8,Zy,mEnd,sAnswer,sAnswer.sRes]
  exact⟨_,Thin.refl _,rfl⟩
theorem pdqh_nil(cf:FuncId)(hcf:CmpOk cf)(lim:Int)(M:Mem):
 Abs.Spec qc 145 [.slice none 0 0,.int .i64 0,.int .i64 0,.int .i64 lim,cmpH cf] M fun u M'=>u=.tuple #[]∧M'=M:=by
 have is:=insh_nil cf hcf M
 unfold cmpH at is ⊢
 refine VE Tryz.func145 Tryz.results145 Tryz.ntmps145 fun hc hx k=>?_
 have w0:IntKind.i64.wrap ((0:Int)-0)=0:=by decide
 have q1:decide ((0:Int)≤12)=true:=rfl
 refine J0 (R0 ?_)
 refine J0 (R0 ?_)
 refine Ja (JD (fun j f M'=>j=0∧f=[(0,.slice none 0 0),(1,.int .i64 0),(2,.int .i64 0),(4,.func (.func cf) #[] #[])]∧M'=M) 0 ?_ ?_)
 ·refine JK [0,1,2,4] ?_
  exact⟨M,Thin.refl _,rfl⟩
 ·rintro j f M' ⟨rfl,rfl,e9⟩
  replace e9:=e9.symm;subst e9
  refine Ja (J0 (R1 @w0 ?_))
  refine J0 (J0 (R2 @q1 @decide_true ?_))
  refine CT (J0 (R0 ?_))
  refine⟨by kernel_rfl,_,is,?_⟩
  rintro _ M2 ⟨rfl,rfl⟩
  refine S0 ?_
  refine T0 ?_
  exact⟨_,Thin.refl _,rfl⟩
theorem sorth_nil(cf:FuncId)(hcf:CmpOk cf)(M:Mem):
 Abs.Spec qc 66 [.slice none 0 0,cmpH cf] M fun u M'=>u=.tuple #[]∧M'=M:=by
 have pq:=fun lim=>pdqh_nil cf hcf lim M
 unfold cmpH at pq ⊢
 refine VE Tryz.func66 Tryz.results66 Tryz.ntmps66 fun hc hx k=>?_
 have bl:=fun m=>blen_spec 0 (by omega) (by omega) m
 have w0:IntKind.u64.wrap 0=0:=by decide
 refine J0 (R0 ?_)
 refine R1 @w0 ?_
 refine K0 (bl _) ?_
 refine⟨by kernel_rfl,_,pq _,?_⟩
 rintro _ M2 ⟨rfl,rfl⟩
 simp only[zZ,reduceIte,yQ,yW,yX,yZ,yJ,yK,yV,zDk,Jc,Jd,J9,J8,Zy,mEnd,sAnswer,sAnswer.sRes]
 exact⟨_,Thin.refl _,rfl⟩
theorem sorth_own(cf:FuncId)(hcf:CmpOk cf)(K:Nat)(M:Mem)(V:Value)(L:List Header)(h:ZV K M V L)(hl:L.length≤12)(hs:SmallH L):
 Abs.Spec qc 66 [V,cmpH cf] M
  fun u M'=>u=.tuple #[]∧(∃R,Stable hid L R∧ZV K M' V R)∧(∀b y,ZT V≠some b→M.get b=some y→M'.get b=some y)∧M'.size=M.size:=by
 rcases h with⟨rfl,rfl⟩|⟨h0,g,hk,rfl,hg⟩
 ·refine(sorth_nil cf hcf M).mono ?_
  rintro u M' ⟨rfl,rfl⟩
  exact⟨rfl,⟨[],Stable.refl _ qx.nil,OwnL.nil _ _⟩,fun _ _ _ h=>h,rfl⟩
 ·refine(sorth_spec cf hcf g L.length L.length M L hg rfl hl hs).mono ?_
  rintro u M' ⟨rfl,⟨R,hR,hg'⟩,ho,hsz⟩
  have hlen:=hR.len
  refine⟨rfl,⟨R,hR,.inr ⟨fun e=>h0 (qj (by rw[←hlen,e];rfl)),g,hk,by rw[hlen],hg'⟩⟩,fun b y hb hy=>ho b y (by simp;exact fun e=>hb (by rw[e];rfl)) hy,hsz⟩
theorem insHead_split(h:Header):∀l,Rising hid l→∃a b,l=a++b∧insHead l h=a++h::b∧(∀x∈a,hid x≤hid h)∧(∀x∈b,hid h<hid x)
 | [],_=>⟨[],[],rfl,rfl,by simp,by simp⟩
 |x::r,hr=>by
  unfold Rising at hr
  rw[qo]at hr
  by_cases q:x.id≤h.id
  ·obtain⟨a,b,h1,h2,h3,h4⟩:=insHead_split h r hr.2
   refine⟨x::a,b,by rw[h1];rfl,?_,?_,h4⟩
   ·unfold insHead
    rw[if_pos q,h2]
    rfl
   ·intro y hy
    rcases qh.1 hy with rfl|hy
    ·exact q
    ·exact h3 y hy
  ·refine⟨[],x::r,rfl,?_,by simp,?_⟩
   ·unfold insHead
    rw[if_neg q]
    rfl
   ·intro y hy
    rcases qh.1 hy with rfl|hy
    ·unfold hid;omega
    ·have:=hr.1 y hy
     unfold hid at*
     omega
theorem heads_go(l:List Header):∀X acc,Stable hid X acc→Stable hid (X++l) (l.foldl insHead acc):=by
 induction l with
 |nil=>intro X acc h;rw[qf];exact h
 |cons x l ih=>
  intro X acc h
  obtain⟨a,b,h1,h2,h3,h4⟩:=insHead_split x acc h.rising
  rw[List.foldl_cons,show X++x::l=X++[x]++l by simp]
  refine ih (X++[x]) _ ?_
  rw[h2]
  have hst2:Stable hid (a++b++[x]) (a++x::b):=UH hid (by rw[←h1];exact h.rising) h3 h4
  exact hst2.of_keys hid (fun k=>by rw[Xb,Xb hid k X,←h1,h.keys]) (by rw[←h1];simp[h.len])
theorem heads_stable(l:List Header):Stable hid l (headsOf l):=by
 have:=heads_go l [] [] (Stable.refl hid qx.nil)
 rw[qp]at this
 exact this
theorem heads_eq{l r:List Header}(h:Stable hid l r):r=headsOf l:=Stable.unique hid h (heads_stable l)
end Go.Proofs.YteccmcpaheepcaaGreatDoor
namespace Go.Proofs.YteccmcpaheepcaaGreatDoor
open Go.RowKit Abs
section
variable {key : List UInt8} {a : Arc} {ep st : Int} {G : List Bool}
theorem stage_d1(hk:ArcOk key a){d:Dsk}(hd:d.dead=false){k:Nat}{b:List UInt8}(hb:a.blocks[k]?=some b):
 Dep.stage d (ZW key a ep st G) a.head.id (k:Int) b=if G.getD k false=true then(d,ZW key a ep st G,0)else Dep.staged1 d (ZW key a ep st G) 0 ⟨a.ext,G⟩ (k:Int) b:=by
 have hkl:=(qk.1 hb).1
 have hl:=hk.len
 have hbl:=hk.size b (qv hb)
 unfold Dep.stage
 rw[if_neg (by rw[hd];decide),d1_rec]
 simp only
 rw[if_neg (by show¬((k:Int)<0∨a.head.n≤(k:Int));omega),if_neg (by simp[hbl]),qi]
theorem kept_d0:(Dp0 key ep st).keptL=[]:=rfl
theorem kept_d2:(Dp2 key a ep st).keptL=[a.head]:=rfl
end
def hello:List UInt8:=[104,101,108,108,111]
theorem wake_plain(key:List UInt8)(a:Arc)(hk:ArcOk key a)(hl:a.blocks.length=1)(b:List UInt8)(hb:a.blocks[0]?=some b):
 ∃d1 G d2 d3,Dep.begin (JT 20) (Dp0 key 1 0) a.head=(d1,ZW key a 1 0 G,0)∧Dep.stage d1 (ZW key a 1 0 G) a.head.id 0 b=(d2,ZW key a 1 1 [true],0)∧Dep.commit d2 (ZW key a 1 1 [true]) a.head.id=(d3,Dp2 key a 1 1,0):=by
 obtain⟨h1,h2,h3,h4,h5⟩:=hist_new 20 (by decide) (by decide) a (fun _=>True)
 have hl6:a.blocks.length≤6:=by omega
 have ln:=hk.len
 rcases sess_begin (ep:=1) (st:=0) hk hl6 h1 h2 h4 h5 h3.1 with⟨b1,b2,b3,b4,b5⟩|⟨b1,_⟩
 ·obtain⟨X,hX⟩:∃X,X=Dep.begin (JT 20) (Dp0 key 1 0) a.head:=⟨_,rfl⟩
  rw[←hX]at b1 b2 b3 b4 b5
  have lv1:=b5 h3
  have hf:Xq a=[false]:=by
   unfold Xq
   rw[show a.head.n.toNat=1 by omega]
   rfl
  rw[hf]at b2 b3
  have e1:Dep.begin (JT 20) (Dp0 key 1 0) a.head=(X.1,ZW key a 1 0 [false],0):=by rw[←hX];exact Prod.ext rfl (Prod.ext b2 b1)
  have s1:=stage_d1 (ep:=1) (st:=0) (G:=[false]) hk lv1.1 hb
  rw[if_neg (by simp)]at s1
  rcases sess_stage (ep:=1) (st:=0) hk hl6 b3 lv1.1 0 b hb rfl with⟨c1,c2,c3,c4,c5⟩|⟨c1,_⟩
  ·obtain⟨Y,hY⟩:∃Y,Y=Dep.staged1 X.1 (ZW key a 1 0 [false]) 0 ⟨a.ext,[false]⟩ ((0:Nat):Int) b:=⟨_,rfl⟩
   rw[←hY]at c1 c2 c3 c4 c5 s1
   have lv2:=c5 lv1
   have hG:([false]:List Bool).set 0 true=qe a.blocks.length true:=by rw[hl];rfl
   rcases sess_commit (ep:=1) (st:=1) hk hl6 hG c3 lv2.1 with⟨f1,f2,_⟩|⟨f1,_⟩
   ·refine⟨X.1,[false],Y.1,(Dep.commit Y.1 (ZW key a 1 1 [true]) a.head.id).1,e1,?_,?_⟩
    ·show Dep.stage X.1 (ZW key a 1 0 [false]) a.head.id ((0:Nat):Int) b=_
     rw[s1]
     show Y=(Y.1,ZW key a 1 1 [true],0)
     exact Prod.ext rfl (Prod.ext c2 c1)
    ·have f1':(Dep.commit Y.1 (ZW key a 1 1 [true]) a.head.id).2.2=0:=f1
     have f2':(Dep.commit Y.1 (ZW key a 1 1 [true]) a.head.id).2.1=Dp2 key a 1 1:=f2
     exact Prod.ext rfl (Prod.ext f2' f1')
   ·exact absurd lv2 f1
  ·exact absurd lv1 c1
 ·exact absurd h3 b1
def OpenAt(M M':Mem)(p q g:Nat)(v:Value)(X:Dsk×Option Dep×Int):Prop:=match X.2.1 with
 |none=>v=.pointer none∧DskAt M' p q g X.1
 |some D=>∃P,v=.pointer (some ⟨P,0,none⟩)∧M.size≤P∧DepAt M' P p q g X.1 D
theorem open_spec(M:Mem)(p q g:Nat)(d:Dsk)(hd:DskAt M p q g d)(secret:ByteArray)(hsec:secret.size≤140737488355000):
 Abs.Spec qc 19 [dp p,.string secret] M fun u M'=>∃v,u=.tuple #[v,.int .i64 (openD d (Sha.headKey secret.data.toList)).2.2]∧OpenAt M M' p q g v (openD d (Sha.headKey secret.data.toList))∧Only [p,q,g] M M'∧M.size≤M'.size:=by
 obtain⟨key,hkey⟩:∃key,key=Sha.headKey secret.data.toList:=⟨_,rfl⟩
 have hkl:key.length≤1000000:=by rw[hkey,U0];decide
 rw[←hkey]
 obtain⟨Z,hZ⟩:∃Z,Z=openD d key:=⟨_,rfl⟩
 rw[←hZ]
 unfold openD at hZ
 refine Abs.Spec.walkM Tryz.func19 (by rfl) _ Tryz.results19 _ Tryz.ntmps19 (by simp[dp]) ?_
 intro hc hx k
 have hN:=hd.ok.n
 have hpl:p<M.size:=by obtain⟨s,h⟩:=hd.row;exact Q3 h
 have hql:q<M.size:=Q3 hd.kv
 have hgl0:g<M.size:=Q3 hd.old
 have hdp:dp p=.pointer (some ⟨p,0,none⟩):=rfl
 refine J0 (R0 ?_)
 refine J0 (J0 (R0 ?_))
 refine K0 (dlen_spec M p q g d hd) ?_
 refine CC (decide ((d.old.length:Int)<13)) (fun h=>J0 (J1 ?_)) (fun h=>J6 ?_)
 ·rw[if_pos (by have:=of_decide_eq_true h;omega)]at hZ
  refine S0 ?_
  refine T0 ?_
  subst hZ
  exact⟨M,Thin.refl _,_,rfl,⟨rfl,hd⟩,Only.refl _ _,qt _⟩
 have h13:13≤d.old.length:=by have:=of_decide_eq_false h;omega
 rw[if_neg (by omega)]at hZ
 refine S0 ?_
 refine J0 (R0 ?_)
 refine⟨by kernel_rfl,_,keys_spec secret _ (by omega) (by decide) M,?_⟩
 rintro _ M9 ⟨rfl,e9⟩;replace e9:=e9.symm;subst e9
 have hkv:keysV secret.data.toList (⟨#[]⟩:ByteArray).data.toList=.agg #[.string (str (Sha.encKey secret.data.toList [])),.string (str (Sha.macKey secret.data.toList [])),.string (str key)]:=by rw[hkey];rfl
 rw[hkv]
 have hfld:vField qc 94 (some (.agg #[.string (str (Sha.encKey secret.data.toList [])),.string (str (Sha.macKey secret.data.toList [])),.string (str key)])) 2=some (.string (str key)):=by rfl
 obtain⟨D0,hD0⟩:∃D0,D0=Dep.fresh key:=⟨_,rfl⟩
 have hbd:Qt qc 122 [(0,.pointer (some ⟨p,0,none⟩)),(1,.string (str key))]=some (.agg (JG p D0 (qe 4 (.pointer none)) (qe 8 (.pointer none))).toArray):=by rw[hD0];kernel_rfl
 have hbx:QK qc 122 (.agg (JG p D0 (qe 4 (.pointer none)) (qe 8 (.pointer none))).toArray)=some (.cells false (J5 qc 122) (JG p D0 (qe 4 (.pointer none)) (qe 8 (.pointer none)))):=bx_Dep _ rfl
 generalize J5 qc 122=s1 at hbx
 refine S4 @hfld @hdp @hbd @hbx ?_
 obtain⟨M2,hM2⟩:∃M2,M2=M.push (.cells false s1 (JG p D0 (qe 4 (.pointer none)) (qe 8 (.pointer none)))):=⟨_,rfl⟩
 obtain⟨P,hP⟩:∃P,P=M.size:=⟨_,rfl⟩
 have hg2:M2.get P=some (.cells false s1 (JG p D0 (qe 4 (.pointer none)) (qe 8 (.pointer none)))):=by rw[hM2,hP,Mem.get_push_new]
 have ho2:Only [p,q,g] M M2:=by rw[hM2];exact Only.push _ _ _
 have hs2:M2.size=M.size+1:=by rw[hM2,Mem.size_push]
 rw[←hM2,←hP]
 have hat0:DepAt M2 P p q g d D0:=⟨hd.only (l:=[]) (by rw[hM2];exact Only.push _ _ _) (by simp) (by simp) (by simp),by rw[hD0];exact fresh_ok key _,⟨s1,_,_,hg2,by rw[hD0];exact ptrs_none _ _ _ _,by rw[hD0];exact ptrs_none _ _ _ _⟩,by omega⟩
 have fin:∀M':Mem,Only [P,p,q,g] M2 M'→Only [p,q,g] M M':=fun M' ho b x hb hx=>by
  have:=Mem.get_lt hx
  exact ho b x (by simp at hb ⊢;exact⟨by omega,hb⟩) (ho2 b x hb hx)
 refine J0 (J0 (R0 ?_))
 refine Ja (JD (fun j f M'=>∃i:Nat,j=8-i∧i≤8∧(d.dead=true→i=0)∧f=[(0,.pointer (some ⟨p,0,none⟩)),(6,.pointer (some ⟨P,0,none⟩)),(29,.int .i64 (i:Nat))]∧
  DepAt M' P p q g d { D0 with kept:=Jp d key i }∧Only [P,p,q,g] M2 M'∧M2.size≤M'.size) 8 ?_ ?_)
 ·refine JK [0,6,29] ?_
  exact⟨M2,Thin.refl _,0,rfl,by omega,fun _=>rfl,rfl,by subst hD0;exact hat0,Only.refl _ _,qt _⟩
 ·rintro j f M' ⟨i,rfl,hi8,hdz,rfl,hat,ho,hss⟩
  refine J0 (R0 ?_)
  refine J0 (CC (decide ((i:Int)<8)) (fun h=>J6 ?_) (fun h=>JE ?_))
  ·have h:=of_decide_eq_true h
   have hi:i<8:=by omega
   have w1:IntKind.i64.wrap (5+(i:Int))=((5+i:Nat):Int):=by rw[XJ (by omega) (by omega)];omega
   have w2:IntKind.i64.wrap ((i:Int)+1)=((i+1:Nat):Int):=by rw[XJ (by omega) (by omega)];omega
   have hrd:=read_at (d:=d) (i:=5+i) (by omega)
   have hsl:=sector_len hd.ok (i:=5+i) (by omega)
   simp only[zZ,reduceIte,yQ,yW,yX,yZ,yJ,yK,yV]
   refine J0 (Ja (J0 (R0 ?_)))
   refine J0 (R1 @w1 ?_)
   refine⟨by kernel_rfl,_,read_spec M' p q g d hat.dsk ((5+i:Nat):Int),?_⟩
   rintro _ M9 ⟨rfl,e9⟩;replace e9:=e9.symm;subst e9
   rw[hrd]
   cases hdd:d.dead with
   |true=>
    rw[if_pos hdd]at hZ
    have q1:((7:Int) !=0)=true:=rfl
    simp only[if_true,zZ,reduceIte,yQ,yW,yX,yZ,yJ,yK,yV,zDk,Jc,Jd,J9,J8,Zy]
    refine J0 (J0 (R1 @q1 ?_))
    refine CT (J0 (R0 ?_))
    refine T0 ?_
    subst hZ
    exact⟨_,Thin.refl _,_,rfl,⟨rfl,hat.dsk⟩,fin _ ho,by omega⟩
   |false=>
   have q1:((0:Int) !=0)=false:=rfl
   simp only[if_false,Bool.false_eq_true,zZ,reduceIte,yQ,yW,yX,yZ,yJ,yK,yV,zDk,Jc,Jd,J9,J8,Zy]
   refine J0 (J0 (R1 @q1 ?_))
   refine CF (J6 ?_)
   refine S0 ?_
   refine J0 (R0 ?_)
   refine⟨by kernel_rfl,_,ctake_at (d.sector (5+i)) hsl M',?_⟩
   rintro _ M9 ⟨rfl,e9⟩;replace e9:=e9.symm;subst e9
   have hal:Q0 qc 102=some (.cells false (J5 qc 102) noExt.cells):=al_Ext
   generalize J5 qc 102=s2 at hal
   have agg8:∀x:Ext,(Value.agg x.cells.toArray).cells.toList=x.cells:=fun _=>rfl
   have put8:∀(M0:Mem)(b:Nat)(x y:Ext),Jk 8 M0 b 0 y.cells (some (.cells false s2 x.cells))=some (M0.set b (some (.cells false s2 y.cells))):=fun _ _ _ _=>rfl
   have row8:∀(x:Ext),Jm 8 0 (some (.cells false s2 x.cells))=some (.agg x.cells.toArray):=fun _=>rfl
   refine S4 @hal @Mem.get_push_new @agg8 @put8 ?_
   obtain⟨X,hX⟩:∃X,X=Xf (d.sector (5+i)):=⟨_,rfl⟩
   have hst:Jp d key (i+1)=(Jp d key i).set i (keptStep d key (Jp d key i) i):=rfl
   unfold keptStep at hst
   rw[←hX]at hst ⊢
   obtain⟨b4,hb4⟩:∃b,b=M'.size:=⟨_,rfl⟩
   obtain⟨M4,hM4⟩:∃M4,M4=(M'.push (.cells false s2 noExt.cells)).set M'.size (some (.cells false s2 X.1.cells)):=⟨_,rfl⟩
   rw[←hM4,←hb4]
   have g4:M4.get b4=some (.cells false s2 X.1.cells):=by rw[hM4,hb4];exact Mem.get_set_same (Mem.get_push_new _ _) _
   have mo4:More M' M4:=⟨fun b x hb=>by
    have:=Mem.get_lt hb
    rw[hM4,Mem.get_set_ne (by omega),Mem.get_push_old this];exact hb,by rw[hM4,Mem.size_set,Mem.size_push];omega⟩
   have hs4:=mo4.size
   have ho4:Only [P,p,q,g] M2 M4:=fun b x hb hx=>mo4.get _ _ (ho b x hb hx)
   have hat4:=hat.same mo4.get
   cases q2:(X.2==0)with
   |false=>
    have hno:Jp d key (i+1)=Jp d key i:=by
     rw[hst,if_neg (fun h=>by rw[h.1]at q2;cases q2)]
     exact set_same (VY d key i i (qt _) hi)
    refine J0 (R1 @q2 ?_)
    refine CF (J6 ?_)
    refine S0 ?_
    refine R1 @w2 ?_
    refine JK [0,6,29] ?_
    exact⟨M4,Thin.refl _,8-(i+1),⟨i+1,rfl,by omega,(fun h=>by cases h),rfl,by rw[hno];exact hat4,ho4,by omega⟩,by omega⟩
   |true=>
    have hX0:X.2=0:=by simpa using q2
    have hmx:Jz X.1=true:=by rw[hX];exact catTake_may (by rw[←hX];exact hX0)
    refine J0 (R3 @q2 @g4 @row8 ?_)
    refine⟨by kernel_rfl,_,fits_spec P p q g d _ M4 hat4 (by subst hD0;exact hkl) X.1 hmx,?_⟩
    rintro _ M5 ⟨rfl,mo5⟩
    have hs5:=mo5.size
    have g5:=mo5.get _ _ g4
    have ho5:Only [P,p,q,g] M2 M5:=fun b x hb hx=>mo5.get _ _ (ho4 b x hb hx)
    have hat5:=hat4.same mo5.get
    have hfe:Vx ({ D0 with kept:=Jp d key i }:Dep).key d.old.length ({ D0 with kept:=Jp d key i }:Dep).places X.1=Vx key d.old.length (QB (Jp d key i) []) X.1:=by
     subst hD0
     unfold Dep.places Dep.fresh
     simp only
     rw[places_none]
    rw[hfe]
    refine S0 ?_
    refine CC (Vx key d.old.length (QB (Jp d key i) []) X.1) (fun hq=>J1 ?_) (fun hq=>J6 ?_)
    ·rw[if_pos ⟨hX0,hq⟩]at hst
     obtain⟨s5,vo5,vk5,hrow5,ho5r,hk5⟩:=hat5.row
     have l4:vo5.length=4:=by rw[ho5r.len,hat5.ok.opn]
     have l8:vk5.length=8:=by rw[hk5.len,hat5.ok.kept]
     have ln:=Vy p { D0 with kept:=Jp d key i } vo5 vk5 l4 l8
     have z0:(0:Int)≤(i:Int):=by omega
     have z8:(i:Int)<((8:Nat):Int):=by omega
     have z8':(i:Int)<8:=by omega
     have hput:Jk 1 M5 P (7+i) [.pointer (some ⟨b4,0,none⟩)] (some (.cells false s5 (JG p { D0 with kept:=Jp d key i } vo5 vk5)))=some (M5.set P (some (.cells false s5 ((JG p { D0 with kept:=Jp d key i } vo5 vk5).set (7+i) (.pointer (some ⟨b4,0,none⟩)))))):=by
      simp only[Jk]
      rw[if_pos ⟨rfl,by show 7+i+1≤(JG p { D0 with kept:=Jp d key i } vo5 vk5).length;omega,rfl⟩]
      rfl
     have nP:b4∉ [P,p,q,g]:=by
      simp only[qh,List.not_mem_nil,or_false]
      omega
     have hfin:=hat5.turnK ho5r hk5 hrow5 i hi (some X.1) (fun y hy=>by cases hy;have:=fits_fitX hq;subst hD0;exact this) (.pointer (some ⟨b4,0,none⟩)) ⟨b4,s2,nP,rfl,g5⟩
     simp only at hfin
     rw[←hst]at hfin
     refine S7 @hrow5 @z0 @z8 @z8' @and_self @qi @hput ?_
     refine R1 @w2 ?_
     refine JK [0,6,29] ?_
     exact⟨_,Thin.refl _,8-(i+1),⟨i+1,rfl,by omega,(fun h=>by cases h),rfl,hfin,ho5.trans (Only.set (by simp) _),by rw[Mem.size_set];omega⟩,by omega⟩
    ·have hno:Jp d key (i+1)=Jp d key i:=by
      rw[hst,if_neg (fun h=>by rw[h.2]at hq;cases hq)]
      exact set_same (VY d key i i (qt _) hi)
     refine S0 ?_
     refine R1 @w2 ?_
     refine JK [0,6,29] ?_
     exact⟨M5,Thin.refl _,8-(i+1),⟨i+1,rfl,by omega,(fun h=>by cases h),rfl,by rw[hno];exact hat5,ho5,by omega⟩,by omega⟩
  ·have h:=of_decide_eq_false h
   obtain rfl:i=8:=by omega
   have hdd:d.dead=false:=by
    cases hdd:d.dead with
    |false=>rfl
    |true=>have:=hdz hdd;omega
   rw[if_neg (by rw[hdd];decide)]at hZ
   obtain⟨K,hK⟩:∃K,K=Jp d key 8:=⟨_,rfl⟩
   rw[←hK]at hZ hat
   refine S0 ?_
   refine J0 (J0 (R0 ?_))
   refine Ja (JD (fun j f M'=>∃i:Nat,j=4-i∧i≤4∧f=[(0,.pointer (some ⟨p,0,none⟩)),(6,.pointer (some ⟨P,0,none⟩)),(60,.int .i64 (i:Nat))]∧(Jo key K d i).2.2=0∧(Jo key K d i).1.dead=false∧(Jo key K d i).1.old.length=d.old.length∧
    DepAt M' P p q g (Jo key K d i).1 { D0 with kept:=K,opn:=(Jo key K d i).2.1 }∧Only [P,p,q,g] M2 M'∧M2.size≤M'.size) 4 ?_ ?_)
   ·refine JK [0,6,60] ?_
    exact⟨M',Thin.refl _,0,rfl,by omega,rfl,rfl,hdd,rfl,by subst hD0;exact hat,ho,hss⟩
   ·clear hat ho hss
    rintro j f M' ⟨i,rfl,hi4,rfl,herr,hdi,hli,hat,ho,hss⟩
    refine J0 (R0 ?_)
    obtain⟨di,hdi_⟩:∃di,di=(Jo key K d i).1:=⟨_,rfl⟩
    obtain⟨O,hO⟩:∃O,O=(Jo key K d i).2.1:=⟨_,rfl⟩
    have hup:Jo key K d (i+1)=UB key K di O i:=by
     show(if(Jo key K d i).2.2≠0 then Jo key K d i else UB key K (Jo key K d i).1 (Jo key K d i).2.1 i)=_
     rw[if_neg (by rw[herr];decide),hdi_,hO]
    unfold UB at hup
    refine J0 (CC (decide ((i:Int)<4)) (fun h=>J6 ?_) (fun h=>JE ?_))
    ·have h:=of_decide_eq_true h
     have hi:i<4:=by omega
     rw[←hdi_]at hdi hli hat
     rw[←hO]at hat
     have w1:IntKind.i64.wrap (1+(i:Int))=((1+i:Nat):Int):=by rw[XJ (by omega) (by omega)];omega
     have w2:IntKind.i64.wrap ((i:Int)+1)=((i+1:Nat):Int):=by rw[XJ (by omega) (by omega)];omega
     have hrd:=read_at (d:=di) (i:=1+i) (by omega)
     rw[if_neg (by rw[hdi];decide)]at hrd
     have hsl:=sector_len hat.dsk.ok (i:=1+i) (by omega)
     simp only[zZ,reduceIte,yQ,yW,yX,yZ,yJ,yK,yV]
     refine J0 (Ja (J0 (R0 ?_)))
     refine J0 (R1 @w1 ?_)
     refine⟨by kernel_rfl,_,read_spec M' p q g di hat.dsk ((1+i:Nat):Int),?_⟩
     rintro _ M9 ⟨rfl,e9⟩;replace e9:=e9.symm;subst e9
     rw[hrd]
     have q1:((0:Int) !=0)=false:=rfl
     refine S0 ?_
     refine J0 (J0 (R1 @q1 ?_))
     refine CF (J6 ?_)
     refine S0 ?_
     refine J0 (R0 ?_)
     refine⟨by kernel_rfl,_,jtake_at (di.sector (1+i)) hsl M',?_⟩
     rintro _ M9 ⟨rfl,e9⟩;replace e9:=e9.symm;subst e9
     have hal:Q0 qc 132=some (.cells false (J5 qc 132) noRec.cells):=al_Rec
     generalize J5 qc 132=s2 at hal
     have agg13:∀x:Rec,(Value.agg x.cells.toArray).cells.toList=x.cells:=fun _=>rfl
     have put13:∀(M0:Mem)(b:Nat)(x y:Rec),Jk 13 M0 b 0 y.cells (some (.cells false s2 x.cells))=some (M0.set b (some (.cells false s2 y.cells))):=fun _ _ _ _=>rfl
     have row8:∀(x:Rec),Jm 8 0 (some (.cells false s2 x.cells))=some (.agg x.x.cells.toArray):=fun _=>rfl
     refine S4 @hal @Mem.get_push_new @agg13 @put13 ?_
     obtain⟨X,hX⟩:∃X,X=QL (di.sector (1+i)):=⟨_,rfl⟩
     rw[←hX]at hup ⊢
     obtain⟨b4,hb4⟩:∃b,b=M'.size:=⟨_,rfl⟩
     obtain⟨M4,hM4⟩:∃M4,M4=(M'.push (.cells false s2 noRec.cells)).set M'.size (some (.cells false s2 X.1.cells)):=⟨_,rfl⟩
     rw[←hM4,←hb4]
     have g4:M4.get b4=some (.cells false s2 X.1.cells):=by rw[hM4,hb4];exact Mem.get_set_same (Mem.get_push_new _ _) _
     have mo4:More M' M4:=⟨fun b x hb=>by
      have:=Mem.get_lt hb
      rw[hM4,Mem.get_set_ne (by omega),Mem.get_push_old this];exact hb,by rw[hM4,Mem.size_set,Mem.size_push];omega⟩
     have hs4:=mo4.size
     have ho4:Only [P,p,q,g] M2 M4:=fun b x hb hx=>mo4.get _ _ (ho b x hb hx)
     have hat4:=hat.same mo4.get
     cases q2:(X.2==0)with
     |false=>
      have hnf:¬(X.2=0∧Vx key di.old.length (QB K O) X.1.x=true):=fun h=>by rw[h.1]at q2;cases q2
      obtain⟨M5,e5⟩:∃M5,M5=M4:=⟨_,rfl⟩
      rw[←e5]at hat4 ho4 hs4 ⊢
      have hat5:=hat4
      have ho5:=ho4
      refine J0 (R1 @q2 ?_)
      rw[if_neg hnf]at hup
      refine CF (J0 (J1 ?_))
      cases q3:(X.2 !=8)with
      |false=>
       rw[if_neg (by simpa using q3)]at hup
       refine S1 @q3 ?_
       refine CF (J6 ?_)
       refine S0 ?_
       refine R1 @w2 ?_
       refine JK [0,6,60] ?_
       exact⟨M5,Thin.refl _,4-(i+1),⟨i+1,rfl,by omega,rfl,by rw[hup],by rw[hup];exact hdi,by rw[hup];exact hli,by rw[hup];exact hat5,ho5,by omega⟩,by omega⟩
      |true=>
       rw[if_pos (by simpa using q3)]at hup
       obtain⟨Wd,hWd⟩:∃Wd,Wd=di.write ((1+i:Nat):Int) []:=⟨_,rfl⟩
       have hwl:Wd.1.old.length=di.old.length:=by rw[hWd];exact Qw _ _ _
       have hwa:Wd.2=0→Wd.1.dead=false:=fun h0=>by rw[hWd]at h0 ⊢;exact(Dsk.write_alive (by omega) (by decide) h0).2
       have ws:=XI M5 p q g di hat5.dsk ((1+i:Nat):Int) [] (by simp)
       rw[←hWd]at ws hup
       refine S1 @q3 ?_
       refine CT (J0 (R1 @w1 ?_))
       refine⟨by kernel_rfl,_,ws,?_⟩
       rintro _ M6 ⟨rfl,hd6,ho6,hs6⟩
       have ho6':Only [p,q,g] M5 M6:=ho6.mono (by simp)
       have hat6:=hat5.disk hd6 hwl ho6'
       have ho7:Only [P,p,q,g] M2 M6:=ho5.trans (ho6'.mono (by simp))
       refine S0 ?_
       refine J0 (R0 ?_)
       refine CC (Wd.2 !=0) (fun hq=>J0 (J1 ?_)) (fun hq=>J6 ?_)
       ·have h4:Jo key K d 4=Jo key K d (i+1):=opn_stick (by rw[hup];simpa using hq) 4 (by omega)
        rw[h4,hup,if_pos (by simpa using hq)]at hZ
        refine S0 ?_
        refine T0 ?_
        subst hZ
        exact⟨_,Thin.refl _,_,rfl,⟨rfl,hd6⟩,fin _ ho7,by omega⟩
       ·refine S0 ?_
        refine R1 @w2 ?_
        refine JK [0,6,60] ?_
        exact⟨M6,Thin.refl _,4-(i+1),⟨i+1,rfl,by omega,rfl,by rw[hup];simpa using hq,by rw[hup];exact hwa (by simpa using hq),by rw[hup];exact hwl.trans hli,by rw[hup];exact hat6,ho7,by omega⟩,by omega⟩
     |true=>
      have hX0:X.2=0:=by simpa using q2
      have hmx:=jouTake_may (s:=di.sector (1+i)) (by rw[←hX];exact hX0)
      rw[←hX]at hmx
      refine J0 (R3 @q2 @g4 @row8 ?_)
      refine⟨by kernel_rfl,_,fits_spec P p q g di _ M4 hat4 (by subst hD0;exact hkl) X.1.x hmx.1,?_⟩
      rintro _ M5 ⟨rfl,mo5⟩
      have hs5:=mo5.size
      have g5:=mo5.get _ _ g4
      have ho5:Only [P,p,q,g] M2 M5:=fun b x hb hx=>mo5.get _ _ (ho4 b x hb hx)
      have hat5:=hat4.same mo5.get
      have hfe:Vx ({ D0 with kept:=K,opn:=O }:Dep).key di.old.length ({ D0 with kept:=K,opn:=O }:Dep).places X.1.x=Vx key di.old.length (QB K O) X.1.x:=by subst hD0;rfl
      rw[hfe]
      refine S0 ?_
      cases hq:Vx key di.old.length (QB K O) X.1.x with
      |true=>
       rw[if_pos ⟨hX0,hq⟩]at hup
       obtain⟨s5,vo5,vk5,hrow5,ho5r,hk5⟩:=hat5.row
       have l4:vo5.length=4:=by rw[ho5r.len,hat5.ok.opn]
       have l8:vk5.length=8:=by rw[hk5.len,hat5.ok.kept]
       have ln:=Vy p { D0 with kept:=K,opn:=O } vo5 vk5 l4 l8
       have z0:(0:Int)≤(i:Int):=by omega
       have z8:(i:Int)<((4:Nat):Int):=by omega
       have z8':(i:Int)<4:=by omega
       have hput:Jk 1 M5 P (3+i) [.pointer (some ⟨b4,0,none⟩)] (some (.cells false s5 (JG p { D0 with kept:=K,opn:=O } vo5 vk5)))=some (M5.set P (some (.cells false s5 ((JG p { D0 with kept:=K,opn:=O } vo5 vk5).set (3+i) (.pointer (some ⟨b4,0,none⟩)))))):=by
        simp only[Jk]
        rw[if_pos ⟨rfl,by show 3+i+1≤(JG p { D0 with kept:=K,opn:=O } vo5 vk5).length;omega,rfl⟩]
        rfl
       have nP:b4∉ [P,p,q,g]:=by
        simp only[qh,List.not_mem_nil,or_false]
        omega
       have hfin:=hat5.turnO ho5r hk5 hrow5 i hi (some X.1) (fun y hy=>by cases hy;exact⟨by have:=fits_fitX hq;subst hD0;exact this,hmx.2⟩) (.pointer (some ⟨b4,0,none⟩)) ⟨b4,s2,nP,rfl,g5⟩
       refine CT (R7 @hrow5 @z0 @z8 @z8' @and_self @qi @hput ?_)
       refine R1 @w2 ?_
       refine JK [0,6,60] ?_
       exact⟨_,Thin.refl _,4-(i+1),⟨i+1,rfl,by omega,rfl,by rw[hup],by rw[hup];exact hdi,by rw[hup];exact hli,by rw[hup];exact hfin,ho5.trans (Only.set (by simp) _),by rw[Mem.size_set];omega⟩,by omega⟩
      |false=>
       have hnf:¬(X.2=0∧Vx key di.old.length (QB K O) X.1.x=true):=fun h=>by rw[h.2]at hq;cases hq
       rw[if_neg hnf]at hup
       refine CF (J0 (J1 ?_))
       cases q3:(X.2 !=8)with
       |false=>
        rw[if_neg (by simpa using q3)]at hup
        refine S1 @q3 ?_
        refine CF (J6 ?_)
        refine S0 ?_
        refine R1 @w2 ?_
        refine JK [0,6,60] ?_
        exact⟨M5,Thin.refl _,4-(i+1),⟨i+1,rfl,by omega,rfl,by rw[hup],by rw[hup];exact hdi,by rw[hup];exact hli,by rw[hup];exact hat5,ho5,by omega⟩,by omega⟩
       |true=>
        rw[if_pos (by simpa using q3)]at hup
        obtain⟨Wd,hWd⟩:∃Wd,Wd=di.write ((1+i:Nat):Int) []:=⟨_,rfl⟩
        have hwl:Wd.1.old.length=di.old.length:=by rw[hWd];exact Qw _ _ _
        have hwa:Wd.2=0→Wd.1.dead=false:=fun h0=>by rw[hWd]at h0 ⊢;exact(Dsk.write_alive (by omega) (by decide) h0).2
        have ws:=XI M5 p q g di hat5.dsk ((1+i:Nat):Int) [] (by simp)
        rw[←hWd]at ws hup
        refine S1 @q3 ?_
        refine CT (J0 (R1 @w1 ?_))
        refine⟨by kernel_rfl,_,ws,?_⟩
        rintro _ M6 ⟨rfl,hd6,ho6,hs6⟩
        have ho6':Only [p,q,g] M5 M6:=ho6.mono (by simp)
        have hat6:=hat5.disk hd6 hwl ho6'
        have ho7:Only [P,p,q,g] M2 M6:=ho5.trans (ho6'.mono (by simp))
        refine S0 ?_
        refine J0 (R0 ?_)
        refine CC (Wd.2 !=0) (fun hq=>J0 (J1 ?_)) (fun hq=>J6 ?_)
        ·have h4:Jo key K d 4=Jo key K d (i+1):=opn_stick (by rw[hup];simpa using hq) 4 (by omega)
         rw[h4,hup,if_pos (by simpa using hq)]at hZ
         refine S0 ?_
         refine T0 ?_
         subst hZ
         exact⟨_,Thin.refl _,_,rfl,⟨rfl,hd6⟩,fin _ ho7,by omega⟩
        ·refine S0 ?_
         refine R1 @w2 ?_
         refine JK [0,6,60] ?_
         exact⟨M6,Thin.refl _,4-(i+1),⟨i+1,rfl,by omega,rfl,by rw[hup];simpa using hq,by rw[hup];exact hwa (by simpa using hq),by rw[hup];exact hwl.trans hli,by rw[hup];exact hat6,ho7,by omega⟩,by omega⟩
    ·have h:=of_decide_eq_false h
     obtain rfl:i=4:=by omega
     rw[if_neg (by rw[herr];decide),←hdi_,←hO]at hZ
     rw[←hdi_]at hdi hli hat
     rw[←hO]at hat
     obtain⟨E,hE⟩:∃E,E=di.nextE 0:=⟨_,rfl⟩
     rw[←hE]at hZ
     have hel:E.1.old.length=di.old.length:=by rw[hE];exact nextE_len _ _
     refine S0 ?_
     refine J0 (R0 ?_)
     refine⟨by kernel_rfl,_,next_spec M' p q g di hat.dsk 0,?_⟩
     rintro _ M7 ⟨rfl,hd7,ho7,hs7⟩
     rw[←hE]at hd7 ⊢
     have hat7:=hat.disk hd7 hel ho7
     have ho8:Only [P,p,q,g] M2 M7:=ho.trans (ho7.mono (by simp))
     refine S0 ?_
     refine J0 (J0 (R0 ?_))
     refine CC (E.2.2 !=0) (fun hq=>J0 (J1 ?_)) (fun hq=>J6 ?_)
     ·rw[if_pos (by simpa using hq)]at hZ
      refine S0 ?_
      refine T0 ?_
      subst hZ
      exact⟨_,Thin.refl _,_,rfl,⟨rfl,hd7⟩,fin _ ho8,by omega⟩
     rw[if_neg (by simpa using hq)]at hZ
     obtain⟨s5,vo5,vk5,hrow5,ho5r,hk5⟩:=hat7.row
     have hput:Jk 1 M7 P 2 [.int .i64 E.2.1] (some (.cells false s5 (JG p { D0 with kept:=K,opn:=O } vo5 vk5)))=some (M7.set P (some (.cells false s5 ((JG p { D0 with kept:=K,opn:=O } vo5 vk5).set 2 (.int .i64 E.2.1))))):=by
      simp only[Jk]
      rw[if_pos ⟨rfl,by simp[JG],rfl⟩]
      rfl
     have hfin:=hat7.turnE ho5r hk5 hrow5 E.2.1
     refine S0 ?_
     refine J0 (R2 @hrow5 @hput ?_)
     refine J0 (R0 ?_)
     refine T0 ?_
     subst hZ
     refine⟨_,Thin.refl _,_,rfl,⟨P,rfl,by omega,?_⟩,fin _ (ho8.trans (Only.set (by simp) _)),by rw[Mem.size_set];omega⟩
     subst hD0
     exact hfin
def freeOf(at' n:Int)(x:Ext):Prop:=x.base+x.head.n≤at'∨n≤x.base-at'
theorem freeFor_iff(at' n:Int)(l:List Ext):freeFor at' n l=true↔∀x∈l,freeOf at' n x:=by
 unfold freeFor freeOf
 rw[List.all_eq_true]
 refine forall_congr' fun x=>imp_congr_right fun _=>?_
 by_cases h1:at'<x.base+x.head.n<;>by_cases h2:x.base-at'<n<;>simp[h1,h2]<;>omega
def QY(n:Int):Int→List Ext→Int
 |at',[]=>at'
 |at',x::r=>if n≤x.base-at' then at' else QY n (max at' (x.base+x.head.n)) r
theorem greedy_spec(n lo:Int)(hn:1≤n)(l:List Ext):∀(r pre:List Ext)(a:Int),l=pre++r→r.Pairwise (fun x y=>x.base≤y.base)→lo≤a→(∀x∈pre,x.base+x.head.n≤a)→(∀b,lo≤b→b<a→∃x∈l,¬freeOf b n x)→
 lo≤QY n a r∧(∀x∈l,freeOf (QY n a r) n x)∧∀b,lo≤b→b<QY n a r→∃x∈l,¬freeOf b n x:=by
 intro r
 induction r with
 |nil=>
  intro pre a hl _ hlo hpre hbl
  rw[QY]
  refine⟨hlo,fun x hx=>?_,hbl⟩
  rw[hl,qf]at hx
  exact .inl (hpre x hx)
 |cons x r ih=>
  intro pre a hl hso hlo hpre hbl
  rw[qo]at hso
  rw[QY]
  by_cases h:n≤x.base-a
  ·rw[if_pos h]
   refine⟨hlo,fun y hy=>?_,hbl⟩
   rw[hl,qA,qh]at hy
   rcases hy with hy|rfl|hy
   ·exact .inl (hpre y hy)
   ·exact .inr h
   ·have:=hso.1 y hy
    exact .inr (by omega)
  ·rw[if_neg h]
   refine ih (pre++[x]) (max a (x.base+x.head.n)) (by rw[hl];simp) hso.2 (by omega) (fun y hy=>?_) (fun b hb hba=>?_)
   ·rw[qA,qq]at hy
    rcases hy with hy|rfl
    ·have:=hpre y hy;omega
    ·omega
   ·by_cases e:b<a
    ·exact hbl b hb e
    ·refine⟨x,by rw[hl];simp,fun hf=>?_⟩
     unfold freeOf at hf
     omega
theorem roomGo_spec(n:Int)(l:List Ext)(a:Int)(ha:∀x∈l,freeOf a n x):∀(k:Nat)(lo:Int),lo≤a→(∀b,lo≤b→b<a→∃x∈l,¬freeOf b n x)→roomGo n l k lo=if a<lo+k then some a else none
 |0,lo,h,_=>by rw[roomGo,if_neg (by omega)]
 |k+1,lo,h,hb=>by
  rw[roomGo]
  by_cases e:lo=a
  ·subst e
   rw[if_pos ((freeFor_iff _ _ _).2 ha),if_pos (by omega)]
  ·have hnf:¬freeFor lo n l=true:=fun hf=>by
    obtain⟨x,hx,hx2⟩:=hb lo (Int.le_refl _) (by omega)
    exact hx2 ((freeFor_iff _ _ _).1 hf x hx)
   rw[if_neg hnf,roomGo_spec n l a ha k (lo+1) (by omega) fun b h1 h2=>hb b (by omega) h2]
   by_cases h3:a<lo+1+(k:Int)
   ·rw[if_pos h3,if_pos (by omega)]
   ·rw[if_neg h3,if_neg (by omega)]
theorem roomV_greedy(lo hi n:Int)(l s:List Ext)(hn:1≤n)(h0:0≤lo)(h1:lo≤hi)(hp:∀x,x∈s↔x∈l)(hs:s.Pairwise fun x y=>x.base≤y.base):
 roomV lo hi n l=if n>hi-QY n lo s then none else some (QY n lo s):=by
 obtain⟨a1,a2,a3⟩:=greedy_spec n lo hn s s [] lo rfl hs (Int.le_refl _) (fun x hx=>by cases hx) (fun b h1 h2=>by omega)
 obtain⟨a,ha⟩:∃a,a=QY n lo s:=⟨_,rfl⟩
 rw[←ha]at a1 a2 a3 ⊢
 unfold roomV
 rw[if_neg (by omega),roomGo_spec n l a (fun x hx=>a2 x ((hp x).2 hx)) _ lo a1 fun b h1 h2=>by
  obtain⟨x,hx,hx2⟩:=a3 b h1 h2
  exact⟨x,(hp x).1 hx,hx2⟩]
 by_cases e:n>hi-a
 ·rw[if_pos e,if_neg (by omega)]
 ·rw[if_neg e,if_pos (by omega)]
end Go.Proofs.YteccmcpaheepcaaGreatDoor
namespace Go.Proofs.YteccmcpaheepcaaGreatDoor
open Go.RowKit Abs Stab
theorem may_small{L:List Ext}(h:∀x∈L,Jz x=true):SmallE L:=fun x hx=>by
 obtain⟨a,b,c⟩:=UE (h x hx)
 have:=Uc a
 exact⟨by omega,by omega⟩
theorem vmax(a b:Int):vMin false [.int .i64 a,.int .i64 b]=some (.int .i64 (max a b)):=by
 simp only[vMin,evMin,aMin2]
 by_cases h:a<b
 ·simp[h,Int.max_def];omega
 ·simp[h,Int.max_def];omega
def roomU(o:Option Int):Value:=match o with|none=>.tuple #[.int .i64 0,.bool false]|some a=>.tuple #[.int .i64 a,.bool true]
theorem room_spec(lo hi n:Int)(K:Nat)(M:Mem)(V:Value)(L:List Ext)(h:Vd K M V L)(hl:L.length≤12)(hm:∀x∈L,Jz x=true)(hn:1≤n)(hn2:n≤1000)(h0:0≤lo)(h1:lo≤hi)(h2:hi≤2000):
 Abs.Spec qc 58 [.int .i64 lo,.int .i64 hi,.int .i64 n,V] M fun u M'=>u=roomU (roomV lo hi n L)∧More M M':=by
 refine VE Tryz.func58 Tryz.results58 Tryz.ntmps58 fun hc hx k=>?_
 have halE:Q0 qc 102=some (.cells false (J5 qc 102) noExt.cells):=al_Ext
 generalize J5 qc 102=s2 at halE
 have aggE:∀x:Ext,(Value.agg x.cells.toArray).cells.toList=x.cells:=fun _=>rfl
 have putE:∀(M0:Mem)(b:Nat)(x y:Ext),Jk 8 M0 b 0 y.cells (some (.cells false s2 x.cells))=some (M0.set b (some (.cells false s2 y.cells))):=fun _ _ _ _=>rfl
 have k2:∀x:Ext,cellIn 2 (some (.cells false s2 x.cells))=some (.int .i64 x.head.n):=fun _=>rfl
 have k7:∀x:Ext,cellIn 7 (some (.cells false s2 x.cells))=some (.int .i64 x.base):=fun _=>rfl
 have q1:decide (n<1)=false:=decide_eq_false (by omega)
 have q2:decide (lo<0)=false:=decide_eq_false (by omega)
 have q3:decide (hi<lo)=false:=decide_eq_false (by omega)
 refine J0 (R0 ?_)
 refine J0 (J0 (R3 @q1 @q2 @q3 ?_))
 refine CF (J6 ?_)
 simp only[zZ,reduceIte,yQ,yW,yX,yZ,yJ,yK,yV]
 refine J0 (R0 ?_)
 refine⟨by kernel_rfl,_,eclone_spec K M V L h (by omega),?_⟩
 rintro W M1 ⟨hW,ho1,hs1⟩
 refine S0 ?_
 have so:=sorte_own M.size M1 W L hW hl (may_small hm)
 unfold cmpE at so
 refine J0 (R0 ?_)
 refine⟨by kernel_rfl,_,so,?_⟩
 rintro _ M2 ⟨rfl,⟨R,hR,hW2⟩,hold2,hs2⟩
 have mo2:More M M2:=⟨fun b y hb=>hold2 b y (fun e=>by have:=(hW.live e).1;have:=Mem.get_lt hb;omega) (ho1 b y (by simp) hb),by omega⟩
 have hRm:∀x∈R,Jz x=true:=fun x hx=>hm x ((hR.mem V1 x).1 hx)
 have hRl:R.length≤12:=by rw[hR.len];exact hl
 obtain⟨a0,c0,hV⟩:=hW2.len
 subst hV
 refine S0 ?_
 refine J0 (R0 ?_)
 refine XQ (fun f M'=>f=[(0,.int .i64 lo),(1,.int .i64 hi),(2,.int .i64 n),(11,.int .i64 (QY n lo R))]∧0≤QY n lo R∧QY n lo R≤3000∧More M M') ?_ ?_
 ·refine J0 (R0 ?_)
  refine Ja (JD (fun j f M'=>∃(i:Nat)(a:Int),j=R.length-i∧f=[(0,.int .i64 lo),(1,.int .i64 hi),(2,.int .i64 n),(11,.int .i64 a),(30,.slice a0 R.length c0),(31,.int .i64 (R.length:Nat)),(32,.int .i64 (i:Nat))]∧i≤R.length∧QY n a (R.drop i)=QY n lo R∧0≤a∧a≤3000∧More M2 M') R.length ?_ ?_)
  ·refine JK [0,1,2,11,30,31,32] ?_
   exact⟨M2,Thin.refl _,0,lo,rfl,rfl,by omega,rfl,h0,by omega,More.refl _⟩
  ·rintro j f M' ⟨i,a,rfl,rfl,hi',hgr,ha0,ha1,hmo⟩
   refine J0 (R0 ?_)
   refine J0 (CC (decide ((i:Int)<(R.length:Int))) (fun hq=>J6 ?_) (fun hq=>JE ?_))
   ·have hin:=of_decide_eq_true hq
    obtain⟨x,hX⟩:∃x,R[i]?=some x:=⟨_,qm (by omega)⟩
    obtain⟨g,rfl,_,hg⟩:=hW2.at hX
    have hdrop:R.drop i=x::R.drop (i+1):=by
     have hil:i<R.length:=by omega
     rw[qm hil]at hX
     cases hX
     exact List.drop_eq_getElem_cons hil
    rw[hdrop,QY]at hgr
    obtain⟨hok,hb0,hb1⟩:=UE (hRm x (qv hX))
    have hn3:=Uc hok
    have z0:(0:Int)≤(i:Int):=by omega
    have r1:=ext_row hX 8
    have gg:=hmo.get _ _ hg
    have ws:IntKind.i64.wrap (x.base-a)=x.base-a:=XJ (by omega) (by omega)
    have wa:IntKind.i64.wrap (x.base+x.head.n)=x.base+x.head.n:=XJ (by omega) (by omega)
    have w9:IntKind.i64.wrap ((i:Int)+1)=((i+1:Nat):Int):=by rw[XJ (by omega) (by omega)];omega
    obtain⟨M5,hM5⟩:∃M5,M5=(M'.push (.cells false s2 noExt.cells)).set M'.size (some (.cells false s2 x.cells)):=⟨_,rfl⟩
    obtain⟨b13,hb13⟩:∃b,b=M'.size:=⟨_,rfl⟩
    have g13:M5.get b13=some (.cells false s2 x.cells):=by rw[hM5,hb13];exact Mem.get_set_same (Mem.get_push_new _ _) _
    have mo5:More M' M5:=⟨fun b x hb=>by
     have:=Mem.get_lt hb
     rw[hM5,Mem.get_set_ne (by omega),Mem.get_push_old this];exact hb,by rw[hM5,Mem.size_set,Mem.size_push];omega⟩
    simp only[zZ,reduceIte,yQ,yW,yX,yZ,yJ,yK,yV]
    refine J0 (Ja (J0 (J1 ?_)))
    simp only[zZ,reduceIte,yQ,yW,yX,yZ,yJ,yK,yV,zDk,Jc,Jd,J9,J8,Zy,z0,hin,and_self,qi,gg,r1,halE,Mem.get_push_new,aggE,putE]
    rw[←hM5,←hb13]
    refine J0 (J0 (R3 @g13 @k7 @ws ?_))
    refine CC (decide (n≤x.base-a)) (fun hq=>JE ?_) (fun hq=>J6 ?_)
    ·rw[if_pos (of_decide_eq_true hq)]at hgr
     refine JK [0,1,2,11] ?_
     exact⟨_,Thin.refl _,by rw[hgr],by omega,by omega,(mo2.trans hmo).trans mo5⟩
    ·rw[if_neg (of_decide_eq_false hq)]at hgr
     simp only[zZ,reduceIte,yQ,yW,yX,yZ,yJ,yK,yV]
     refine R5 @g13 @k7 @k2 @wa @vmax ?_
     refine R1 @w9 ?_
     refine JK [0,1,2,11,30,31,32] ?_
     exact⟨_,Thin.refl _,R.length-(i+1),⟨i+1,max a (x.base+x.head.n),rfl,rfl,by omega,hgr,by omega,by omega,hmo.trans mo5⟩,by omega⟩
   ·have hin:=of_decide_eq_false hq
    rw[List.drop_of_length_le (by omega),QY]at hgr
    refine JK [0,1,2,11] ?_
    exact⟨_,Thin.refl _,by rw[hgr],by omega,by omega,mo2.trans hmo⟩
 rintro _ M3 ⟨rfl,ha0,ha1,mo3⟩
 have hrv:=roomV_greedy lo hi n L R hn h0 h1 (fun x=>hR.mem V1 x) hR.rising
 have ws:IntKind.i64.wrap (hi-QY n lo R)=hi-QY n lo R:=XJ (by omega) (by omega)
 refine J0 (J0 (R1 @ws ?_))
 refine CC (decide (n>hi-QY n lo R)) (fun hq=>J0 (J1 ?_)) (fun hq=>J6 ?_)
 ·rw[if_pos (of_decide_eq_true hq)]at hrv
  refine S0 ?_
  refine T0 ?_
  exact⟨_,Thin.refl _,by rw[hrv];rfl,mo3⟩
 ·rw[if_neg (of_decide_eq_false hq)]at hrv
  simp only[zZ,reduceIte,yQ,yW,yX,yZ,yJ,yK,yV]
  refine J0 (R0 ?_)
  refine T0 ?_
  exact⟨_,Thin.refl _,by rw[hrv];rfl,mo3⟩
end Go.Proofs.YteccmcpaheepcaaGreatDoor
namespace Go.Proofs.YteccmcpaheepcaaGreatDoor
open Go.RowKit Abs
def chainH:List Bool→Option Bool
 | []=>some true
 |b::r=>match some b with
  |some true=>chainH r
  |some false=>some false
  |none=>none
theorem chainH_eq:∀l:List Bool,chainH l=some (l.all id)
 | []=>rfl
 |true::r=>by simp[chainH,chainH_eq r]
 |false::r=>by simp[chainH]
def sameH(x y:Header):Bool:=[x.id==y.id,beqB x.salt y.salt,x.n==y.n,x.bytes==y.bytes,x.raw==y.raw,beqB x.root y.root,beqB x.tag y.tag].all id
theorem sameH_iff(x y:Header):sameH x y=true↔x=y:=by
 obtain⟨a0,a1,a2,a3,a4,a5,a6⟩:=x
 obtain⟨b0,b1,b2,b3,b4,b5,b6⟩:=y
 unfold sameH
 simp only[List.all_cons,List.all_nil,id,Bool.and_true,Bool.and_eq_true,beq_iff_eq,decide_eq_true_eq,Header.mk.injEq,beqB_dec]
theorem sameH_self(x:Header):sameH x x=true:=(sameH_iff x x).2 rfl
theorem hdr_neq(cx:Bool)(x y:Header):aBin qc .neq 33 cx (.agg x.cells.toArray) (.agg y.cells.toArray)=some (.bool (!sameH x y)):=by
 obtain⟨a0,a1,a2,a3,a4,a5,a6⟩:=x
 obtain⟨b0,b1,b2,b3,b4,b5,b6⟩:=y
 have e0:aBin qc .neq 33 cx (.agg (Header.cells ⟨a0,a1,a2,a3,a4,a5,a6⟩).toArray) (.agg (Header.cells ⟨b0,b1,b2,b3,b4,b5,b6⟩).toArray)=(chainH [a0==b0,beqB a1 b1,a2==b2,a3==b3,a4==b4,beqB a5 b5,beqB a6 b6]).map fun b=>.bool (!b):=by cases cx<;>kernel_rfl
 rw[e0,chainH_eq,Option.map_some]
 rfl
theorem roomGo_in(n:Int)(l:List Ext):∀(k:Nat)(at' b:Int),roomGo n l k at'=some b→at'≤b∧b<at'+k
 |0,_,_,h=>by cases h
 |k+1,at',b,h=>by
  unfold roomGo at h
  split at h
  ·cases h;omega
  ·have:=roomGo_in n l k (at'+1) b h;omega
theorem roomV_in{lo hi n b:Int}{l:List Ext}(h:roomV lo hi n l=some b):lo≤b∧b+n≤hi:=by
 unfold roomV at h
 split at h
 ·cases h
 ·have:=roomGo_in n l _ _ b h;omega
theorem begin_rest{d:Dsk}{D:Dep}{h:Header}{i:Nat}{base:Int}{W Y:Dsk×Int}(hW:W=d.write ((1+i:Nat):Int) (QD ⟨⟨h,base⟩,qe h.n.toNat false⟩))(hY:Y=W.1.sync):
 Dep.begun d D h i base=(if W.2≠0 then(W.1,D,W.2)else if Y.2≠0 then(Y.1,D,Y.2)else(Y.1,{ D with opn:=D.opn.set i (some ⟨⟨h,base⟩,qe h.n.toNat false⟩) },0)):=by subst hW hY;rfl
theorem free_in{α:Type}:∀(l:List (Option α))(k i:Nat),QP l k=some i→k≤i∧i<k+l.length
 | [],k,i,h=>by cases h
 |none::r,k,i,h=>by unfold QP at h;cases h;simp
 |some a::r,k,i,h=>by
  unfold QP at h
  have:=free_in r (k+1) i h
  simp only[qy]
  omega
theorem places_len{D:Dep}{n:Nat}(h:D.Ok n):D.places.length≤12:=by
 unfold Dep.places QB
 have h2:=qw id D.kept
 have h3:=qw id D.opn
 rw[h.kept]at h2
 rw[h.opn]at h3
 rw[qd,List.length_map];omega
theorem verify_ok{h:Header}{key:List UInt8}(hv:h.verify key=0):h.okP:=(h.check_zero).1 (by
 unfold Header.verify at hv
 split at hv
 ·exact absurd hv (by decide)
 ·rename_i h1
  exact(ZR _).resolve_right h1)
theorem begin_spec(P p q g:Nat)(d:Dsk)(D:Dep)(hd:Header)(M:Mem)(h:DepAt M P p q g d D)(hkey:D.key.length≤1000000)(h13:13≤d.old.length):
 Abs.Spec qc 16 [.pointer (some ⟨P,0,none⟩),.agg hd.cells.toArray] M fun u M'=>u=.int .i64 (Dep.begin d D hd).2.2∧DepAt M' P p q g (Dep.begin d D hd).1 (Dep.begin d D hd).2.1∧Only [P,p,q,g] M M'∧M.size≤M'.size:=by
 obtain⟨Z,hZ⟩:∃Z,Z=Dep.begin d D hd:=⟨_,rfl⟩
 rw[←hZ]
 unfold Dep.begin at hZ
 have hlen0:=h.dsk.ok.n
 refine WM Tryz.func16 Tryz.results16 Tryz.ntmps16 fun _=>?_
 have bx:QK qc 33 (.agg hd.cells.toArray)=some (.cells false (J5 qc 33) hd.cells):=bx_Hdr _ rfl
 have halH:Q0 qc 33=some (.cells false (J5 qc 33) noHead.cells):=al_Hdr
 generalize J5 qc 33=s1 at bx halH
 have halR:Q0 qc 132=some (.cells false (J5 qc 132) noRec.cells):=al_Rec
 generalize J5 qc 132=s2 at halR
 have row7:∀(s:Nat)(x:Header),Jm 7 0 (some (.cells false s x.cells))=some (.agg x.cells.toArray):=fun _ _=>rfl
 have k0:∀(s:Nat)(x:Header),cellIn 0 (some (.cells false s x.cells))=some (.int .i64 x.id):=fun _ _=>rfl
 have agg7:∀x:Header,(Value.agg x.cells.toArray).cells.toList=x.cells:=fun _=>rfl
 have put7:∀(M0:Mem)(b:Nat)(x y:Header),Jk 7 M0 b 0 y.cells (some (.cells false s1 x.cells))=some (M0.set b (some (.cells false s1 y.cells))):=fun _ _ _ _=>rfl
 have row13:∀(s:Nat)(x:Rec),Jm 13 0 (some (.cells false s x.cells))=some (.agg x.cells.toArray):=fun _ _=>rfl
 have agg13:∀x:Rec,(Value.agg x.cells.toArray).cells.toList=x.cells:=fun _=>rfl
 have put13:∀(M0:Mem)(b:Nat)(x y:Rec),Jk 13 M0 b 0 y.cells (some (.cells false s2 x.cells))=some (M0.set b (some (.cells false s2 y.cells))):=fun _ _ _ _=>rfl
 have bdX:∀b:Int,Qt qc 102 [(0,.agg hd.cells.toArray),(1,.int .i64 b)]=some (.agg (⟨hd,b⟩:Ext).cells.toArray):=fun b=>by kernel_rfl
 have bdR:∀(x:Ext)(l:List Bool),Qt qc 132 [(0,.agg x.cells.toArray),(1,QI l)]=some (.agg (⟨x,l⟩:Rec).cells.toArray):=fun x l=>by kernel_rfl
 obtain⟨b3,hb3⟩:∃b,b=M.size:=⟨_,rfl⟩
 obtain⟨M1,hM1⟩:∃M1,M1=M.push (.cells false s1 hd.cells):=⟨_,rfl⟩
 have mo1:More M M1:=by rw[hM1];exact More.push _ _
 have g3:M1.get b3=some (.cells false s1 hd.cells):=by rw[hM1,hb3,Mem.get_push_new]
 have h1:=h.same mo1.get
 obtain⟨s,vo,vk,hrow,ho,hk⟩:=h1.row
 have l4:vo.length=4:=by rw[ho.len,h1.ok.opn]
 have c0:∀s vo vk,cellIn 0 (some (.cells false s (JG p D vo vk)))=some (dp p):=fun _ _ _=>rfl
 have c1:∀s vo vk,cellIn 1 (some (.cells false s (JG p D vo vk)))=some (.string (str D.key)):=fun _ _ _=>rfl
 have out:∀M':Mem,More M M'→Only [P,p,q,g] M M':=fun M' hm b x _ hb=>hm.get b x hb
 have tail3:∀{M' M'':Mem},Only [p,q,g] M' M''→Only [P,p,q,g] M' M'':=fun h=>h.mono (by simp)
 refine J0 (R1 @bx ?_)
 rw[←hM1,←hb3]
 refine J0 (J0 (R0 ?_))
 refine CF (J6 ?_)
 refine S0 ?_
 refine J0 (J0 (R2 @hrow @c0 ?_))
 refine K0 (dead_spec _ p q g d h1.dsk) ?_
 cases hdd:d.dead with
 |true=>
  rw[if_pos hdd]at hZ
  refine CT (J0 (R0 ?_))
  refine T0 ?_
  subst hZ
  exact⟨_,Thin.refl _,rfl,h1,out _ mo1,by have:=mo1.size;omega⟩
 |false=>
 rw[if_neg (by rw[hdd];decide)]at hZ
 refine CF (J6 ?_)
 refine S0 ?_
 refine J0 (J0 (D4 5 @hrow @c1 @g3 @row7 ?_))
 refine K0 (hverify_at D.key (by omega) hd _) ?_
 refine J0 (R0 ?_)
 refine CC (hd.verify D.key !=0) (fun hq=>J0 (R0 ?_)) (fun hq=>J6 ?_)
 ·rw[if_pos (by simpa using hq)]at hZ
  refine T0 ?_
  subst hZ
  exact⟨_,Thin.refl _,rfl,h1,out _ mo1,by have:=mo1.size;omega⟩
 have hv:hd.verify D.key=0:=by simpa using hq
 rw[if_neg (by simpa using hq)]at hZ
 have hok:=verify_ok hv
 have hn2:=Uc hok
 refine S0 ?_
 refine J0 (J0 (R2 @g3 @k0 ?_))
 refine⟨by kernel_rfl,_,head_spec P p q g d (some D) _ hd.id M1 ⟨rfl,h1⟩,?_⟩
 rintro _ M2 ⟨rfl,mo2⟩
 have he:headOr (some D) hd.id=D.headAt hd.id:=rfl
 rw[he]
 obtain⟨X,hX⟩:∃X,X=D.headAt hd.id:=⟨_,rfl⟩
 rw[←hX]at hZ ⊢
 refine S4 @halH @Mem.get_push_new @agg7 @put7 ?_
 obtain⟨b6,hb6⟩:∃b,b=M2.size:=⟨_,rfl⟩
 obtain⟨M3,hM3⟩:∃M3,M3=(M2.push (.cells false s1 noHead.cells)).set M2.size (some (.cells false s1 X.1.cells)):=⟨_,rfl⟩
 rw[←hM3,←hb6]
 have g6:M3.get b6=some (.cells false s1 X.1.cells):=by rw[hM3,hb6];exact Mem.get_set_same (Mem.get_push_new _ _) _
 have mo3:More M2 M3:=⟨fun b x hb=>by
  have:=Mem.get_lt hb
  rw[hM3,Mem.get_set_ne (by omega),Mem.get_push_old this];exact hb,by rw[hM3,Mem.size_set,Mem.size_push];omega⟩
 have mo13:=mo2.trans mo3
 have mo03:=mo1.trans mo13
 have h3:=h1.same mo13.get
 have g33:=mo13.get _ _ g3
 have hrow3:=mo13.get _ _ hrow
 refine J0 (R0 ?_)
 refine CC (X.2.2==0) (fun hq=>J0 (J0 (J1 ?_))) (fun hq=>J6 ?_)
 ·rw[if_pos (by simpa using hq)]at hZ
  have hne:=hdr_neq
  refine S4 @g6 @g33 @row7 @hne ?_
  refine CC (!sameH X.1 hd) (fun hq=>J0 (R0 ?_)) (fun hq=>J6 ?_)
  ·refine T0 ?_
   rw[if_neg (fun e=>by rw[e,sameH_self]at hq;cases hq)]at hZ
   subst hZ
   exact⟨_,Thin.refl _,rfl,h3,out _ mo03,by have:=mo03.size;omega⟩
  refine S0 ?_
  refine J0 (R0 ?_)
  refine T0 ?_
  rw[if_pos ((sameH_iff _ _).1 (by simpa using hq))]at hZ
  subst hZ
  exact⟨_,Thin.refl _,rfl,h3,out _ mo03,by have:=mo03.size;omega⟩
 rw[if_neg (by simpa using hq)]at hZ
 have fr:=freerec_spec P 3 s 4 _ M3 _ vo D.opn hrow3 (fun i v hv=>by
  have:=(qk.1 hv).1
  rw[depC_opn _ _ _ _ l4 _ (by omega)];exact hv) (ho.same fun b x _ hb=>mo13.get b x hb) (by rw[h3.ok.opn];decide)
 rw[h3.ok.opn]at fr
 refine S0 ?_
 refine J0 (R2 @hrow3 @sl_A4 ?_)
 refine K0 (fr) ?_
 cases hF:QP D.opn 0 with
 |none=>
  rw[hF]at hZ
  have e1:freeI (none:Option Nat)= -1:=rfl
  have q1:decide ((-1:Int)<0)=true:=rfl
  rw[e1]
  refine J0 (J0 (R1 @q1 ?_))
  refine CT (J0 (R0 ?_))
  refine T0 ?_
  subst hZ
  exact⟨_,Thin.refl _,rfl,h3,out _ mo03,by have:=mo03.size;omega⟩
 |some i=>
 rw[hF]at hZ
 have hi4:i<4:=by have:=(free_in _ _ _ hF).2;rw[h3.ok.opn]at this;omega
 have e1:freeI (some i)=(i:Int):=rfl
 have q1:decide ((i:Int)<0)=false:=decide_eq_false (by omega)
 rw[e1]
 refine J0 (J0 (R1 @q1 ?_))
 refine CF (J6 ?_)
 have k2:∀(s:Nat),cellIn 2 (some (.cells false s hd.cells))=some (.int .i64 hd.n):=fun _=>rfl
 refine S0 ?_
 refine J0 (CW_drawnG hmix [(9,10),(14,15)] (by kernel_rfl) ?_)
 simp only[zZ,reduceIte,yQ,yW,yX,yZ,yJ,yK,yV,zDk,Jc,Jd,J9,J8,Zy,VH,JY,Qy,QS,isVal,sGuardedV,Q4,Qm,yY,qu,hrow3,c0,g33,k2]
 refine⟨by kernel_rfl,_,[],at0 (dlen_spec _ p q g d h3.dsk),rfl,?_⟩
 simp only[zZ,reduceIte,yQ,yW,yX,yZ,yJ,yK,yV,zDk,Jc,Jd,J9,J8,Zy,VH,JY,Qy,QS,isVal,sGuardedV,Q4,Qm,yY,qu,hrow3,c0,g33,k2]
 obtain⟨V,N,pe,pN,hown⟩:=places_exact P p q g d D M3 h3
 have mo4:More M3 (M3.app N):=⟨fun b x hb=>Zs M3 N b x hb,by rw[Up];omega⟩
 refine⟨by kernel_rfl,_,N,pe,pN,?_⟩
 simp only[zZ,reduceIte,yQ,yW,yX,yZ,yJ,yK,yV,zDk,Jc,Jd,J9,J8,Zy,VH,JY,Qy,QS,isVal,sGuardedV,Q4,Qm,yY,qu]
 refine⟨by kernel_rfl,_,room_spec 13 (d.old.length:Nat) hd.n _ _ V D.places hown (places_len h3.ok) (fun y hy=>fit_may (h3.ok.fit y hy) hlen0) (by omega) (by omega) (by omega) (by omega) (by omega),?_⟩
 rintro _ M5 ⟨rfl,mo5⟩
 have mo35:=mo4.trans mo5
 have mo05:=mo03.trans mo35
 have h5:=h3.same mo35.get
 have g35:=mo35.get _ _ g33
 cases hR:roomV 13 (d.old.length:Nat) hd.n D.places with
 |none=>
  rw[hR]at hZ
  have e2:roomU none=.tuple #[.int .i64 0,.bool false]:=rfl
  rw[e2]
  simp only[zZ,reduceIte,yQ,yW,yX,yZ,yJ,yK,yV,zDk,Jc,Jd,J9,J8,Zy,VH,JY,Qy,QS,isVal,sGuardedV,Q4,Qm,yY,qu]
  refine J0 (J0 (R0 ?_))
  refine CT (J0 (R0 ?_))
  refine T0 ?_
  subst hZ
  exact⟨_,Thin.refl _,rfl,h5,out _ mo05,by have:=mo05.size;omega⟩
 |some base=>
 rw[hR]at hZ
 have e2:roomU (some base)=.tuple #[.int .i64 base,.bool true]:=rfl
 rw[e2]
 simp only[zZ,reduceIte,yQ,yW,yX,yZ,yJ,yK,yV,zDk,Jc,Jd,J9,J8,Zy,VH,JY,Qy,QS,isVal,sGuardedV,Q4,Qm,yY,qu]
 refine J0 (J0 (R0 ?_))
 refine CF (J6 ?_)
 obtain⟨rb0,rb1⟩:=roomV_in hR
 have hfit:fitX D.key d.old.length ⟨hd,base⟩:=⟨hv,rb0,rb1⟩
 have hmx:Jz ⟨hd,base⟩=true:=fit_may hfit hlen0
 obtain⟨nn,hnn⟩:∃nn:Nat,hd.n=(nn:Int):=⟨hd.n.toNat,by omega⟩
 have k2':∀(s:Nat),cellIn 2 (some (.cells false s hd.cells))=some (.int .i64 (nn:Nat)):=fun _=>by rw[←hnn];rfl
 obtain⟨R,hRe⟩:∃R:Rec,R=⟨⟨hd,base⟩,qe nn false⟩:=⟨_,rfl⟩
 have hRm:R.may=true:=by
  rw[hRe]
  unfold Rec.may
  simp only[hmx,List.length_replicate,hnn,Bool.true_and]
  simp
 obtain⟨W,hW⟩:∃W,W=d.write ((1+i:Nat):Int) (QD R):=⟨_,rfl⟩
 obtain⟨Y,hY⟩:∃Y,Y=W.1.sync:=⟨_,rfl⟩
 have hRn:(⟨⟨hd,base⟩,qe hd.n.toNat false⟩:Rec)=R:=by rw[hRe,hnn];rfl
 simp only at hZ
 rw[begin_rest (by rw[hRn];exact hW) hY,hRn]at hZ
 have hlen:W.1.old.length=d.old.length:=by rw[hW];exact Qw _ _ _
 have hlen2:Y.1.old.length=W.1.old.length:=by rw[hY];exact sync_len _
 refine S0 ?_
 refine J0 (D4 8 @g35 @row7 @k2' @bdX ?_)
 refine⟨by kernel_rfl,_,bnew_at nn (by omega) _,?_⟩
 have bdR':=bdR ⟨hd,base⟩ (qe nn false)
 rw[←hRe]at bdR'
 refine S5 @bdR' @halR @Mem.get_push_new @agg13 @put13 ?_
 obtain⟨b12,hb12⟩:∃b,b=M5.size:=⟨_,rfl⟩
 obtain⟨M6,hM6⟩:∃M6,M6=(M5.push (.cells false s2 noRec.cells)).set M5.size (some (.cells false s2 R.cells)):=⟨_,rfl⟩
 rw[←hM6,←hb12]
 have g12:M6.get b12=some (.cells false s2 R.cells):=by rw[hM6,hb12];exact Mem.get_set_same (Mem.get_push_new _ _) _
 have mo6:More M5 M6:=⟨fun b x hb=>by
  have:=Mem.get_lt hb
  rw[hM6,Mem.get_set_ne (by omega),Mem.get_push_old this];exact hb,by rw[hM6,Mem.size_set,Mem.size_push];omega⟩
 have mo06:=mo05.trans mo6
 have hs6:=mo06.size
 have h6:=h5.same mo6.get
 have nP:b12∉ [P,p,q,g]:=by
  obtain⟨_,_,_,e,_⟩:=h5.row
  have l1:=Mem.get_lt e
  obtain⟨_,e⟩:=h5.dsk.row
  have l2:=Mem.get_lt e
  have l3:=Mem.get_lt h5.dsk.kv
  have l4:=Mem.get_lt h5.dsk.old
  simp only[qh,List.not_mem_nil,or_false]
  omega
 have nP':b12∉ [p,q,g]:=fun h=>nP (by simp at h ⊢;exact .inr h)
 have ns:=note_spec P p q g d D M6 h6 i hi4 R hRm
 rw[←hW]at ns
 refine J0 (J0 (R2 @g12 @row13 ?_))
 refine⟨by kernel_rfl,_,ns,?_⟩
 rintro _ M7 ⟨rfl,h7,ho7,hs7⟩
 have o7:Only [P,p,q,g] M M7:=(out _ mo06).trans (tail3 ho7)
 refine S0 ?_
 refine J0 (R0 ?_)
 refine CC (W.2 !=0) (fun hq=>J0 (R0 ?_)) (fun hq=>J6 ?_)
 ·rw[if_pos (by simpa using hq)]at hZ
  refine T0 ?_
  subst hZ
  exact⟨_,Thin.refl _,rfl,h7,o7,by omega⟩
 rw[if_neg (by simpa using hq)]at hZ
 obtain⟨s7,vo7,vk7,hrow7,ho7r,hk7⟩:=h7.row
 refine S0 ?_
 refine J0 (J0 (R2 @hrow7 @c0 ?_))
 refine⟨by kernel_rfl,_,sync_spec _ p q g W.1 h7.dsk,?_⟩
 rintro _ M8 ⟨rfl,hd8,ho8,hs8⟩
 rw[←hY]at hd8 ⊢
 have h8:=h7.disk hd8 hlen2 ho8
 have o8:=o7.trans (tail3 ho8)
 refine S0 ?_
 refine J0 (R0 ?_)
 refine CC (Y.2 !=0) (fun hq=>J0 (R0 ?_)) (fun hq=>J6 ?_)
 ·rw[if_pos (by simpa using hq)]at hZ
  refine T0 ?_
  subst hZ
  exact⟨_,Thin.refl _,rfl,h8,o8,by omega⟩
 rw[if_neg (by simpa using hq)]at hZ
 obtain⟨s8,vo8,vk8,hrow8,ho8r,hk8⟩:=h8.row
 have l48:vo8.length=4:=by rw[ho8r.len,h8.ok.opn]
 have l88:vk8.length=8:=by rw[hk8.len,h8.ok.kept]
 have ln:=Vy p D vo8 vk8 l48 l88
 have z0:(0:Int)≤(i:Int):=by omega
 have z8:(i:Int)<((4:Nat):Int):=by omega
 have z8':(i:Int)<4:=by omega
 have g128:M8.get b12=some (.cells false s2 R.cells):=ho8 _ _ nP' (ho7 _ _ nP' g12)
 have hput:Jk 1 M8 P (3+i) [.pointer (some ⟨b12,0,none⟩)] (some (.cells false s8 (JG p D vo8 vk8)))=some (M8.set P (some (.cells false s8 ((JG p D vo8 vk8).set (3+i) (.pointer (some ⟨b12,0,none⟩)))))):=by
  simp only[Jk]
  rw[if_pos ⟨rfl,by show 3+i+1≤(JG p D vo8 vk8).length;omega,rfl⟩]
  rfl
 have hfin:=h8.turnO ho8r hk8 hrow8 i hi4 (some R) (fun y hy=>by cases hy;rw[hRe];exact⟨by rw[hlen2,hlen];exact hfit,by rw[List.length_replicate];exact hnn.symm⟩) (.pointer (some ⟨b12,0,none⟩)) ⟨b12,s2,nP,rfl,g128⟩
 refine S0 ?_
 refine J0 (R7 @hrow8 @z0 @z8 @z8' @and_self @qi @hput ?_)
 refine J0 (R0 ?_)
 refine T0 ?_
 subst hZ
 exact⟨_,Thin.refl _,rfl,hfin,o8.trans (Only.set (by simp) _),by rw[Mem.size_set];omega⟩
theorem begin_none(hd:Header)(M:Mem):
 Abs.Spec qc 16 [.pointer none,.agg hd.cells.toArray] M fun u M'=>u=.int .i64 8∧More M M':=by
 refine WM Tryz.func16 Tryz.results16 Tryz.ntmps16 fun _=>?_
 have bx:QK qc 33 (.agg hd.cells.toArray)=some (.cells false (J5 qc 33) hd.cells):=bx_Hdr _ rfl
 generalize J5 qc 33=s1 at bx
 refine J0 (R1 @bx ?_)
 refine J0 (J0 (R0 ?_))
 refine CT (J0 (R0 ?_))
 refine T0 ?_
 exact⟨_,Thin.refl _,More.push _ _⟩
theorem blocksD_len(d:Dsk)(x:Ext):(Qp d x).1.length≤x.head.n.toNat:=by
 unfold Qp
 split
 ·simp
 ·simp
theorem blocksD_size(d:Dsk)(x:Ext):∀b∈(Qp d x).1,b.length≤224:=by
 unfold Qp
 split
 ·intro b hb;simp at hb
 ·intro b hb
  obtain⟨i,_,rfl⟩:=List.mem_map.1 hb
  rw[List.length_take];omega
theorem commit_spec(P p q g:Nat)(d:Dsk)(D:Dep)(id:Int)(M:Mem)(h:DepAt M P p q g d D):
 Abs.Spec qc 25 [.pointer (some ⟨P,0,none⟩),.int .i64 id] M fun u M'=>u=.int .i64 (Dep.commit d D id).2.2∧DepAt M' P p q g (Dep.commit d D id).1 (Dep.commit d D id).2.1∧Only [P,p,q,g] M M'∧M.size≤M'.size:=by
 obtain⟨Z,hZ⟩:∃Z,Z=Dep.commit d D id:=⟨_,rfl⟩
 rw[←hZ]
 unfold Dep.commit at hZ
 have hlen0:=h.dsk.ok.n
 refine WM Tryz.func25 Tryz.results25 Tryz.ntmps25 fun _=>?_
 have halX:Q0 qc 102=some (.cells false (J5 qc 102) noExt.cells):=al_Ext
 generalize J5 qc 102=s1 at halX
 have rowX:∀(s:Nat)(x:Rec),Jm 8 0 (some (.cells false s x.cells))=some (.agg x.x.cells.toArray):=fun _ _=>rfl
 have rowS:∀(s:Nat)(x:Rec),Jm 5 8 (some (.cells false s x.cells))=some (QI x.got):=fun _ _=>rfl
 have row8:∀(s:Nat)(x:Ext),Jm 8 0 (some (.cells false s x.cells))=some (.agg x.cells.toArray):=fun _ _=>rfl
 have k5:∀(s:Nat)(x:Ext),cellIn 5 (some (.cells false s x.cells))=some (.string x.head.root):=fun _ _=>rfl
 have agg8:∀x:Ext,(Value.agg x.cells.toArray).cells.toList=x.cells:=fun _=>rfl
 have put8:∀(M0:Mem)(b:Nat)(x y:Ext),Jk 8 M0 b 0 y.cells (some (.cells false s1 x.cells))=some (M0.set b (some (.cells false s1 y.cells))):=fun _ _ _ _=>rfl
 have c0:∀s (D':Dep) vo vk,cellIn 0 (some (.cells false s (JG p D' vo vk)))=some (dp p):=fun _ _ _ _=>rfl
 have out:∀M':Mem,More M M'→Only [P,p,q,g] M M':=fun M' hm b x _ hb=>hm.get b x hb
 have tail3:∀{M' M'':Mem},Only [p,q,g] M' M''→Only [P,p,q,g] M' M'':=fun h=>h.mono (by simp)
 refine J0 (R0 ?_)
 refine J0 (R0 ?_)
 refine⟨by kernel_rfl,_,find_spec P p q g d D id M h,?_⟩
 rintro _ M1 ⟨rfl,mo1⟩
 have h1:=h.same mo1.get
 have hs1:=mo1.size
 obtain⟨s,vo,vk,hrow,ho,hk⟩:=h1.row
 refine S0 ?_
 refine J0 (Ja (J0 (R2 @hrow @c0 ?_)))
 refine K0 (dead_spec _ p q g d h1.dsk) ?_
 cases hdd:d.dead with
 |true=>
  rw[if_pos hdd]at hZ
  refine CT (J0 (R0 ?_))
  refine T0 ?_
  subst hZ
  exact⟨_,Thin.refl _,rfl,h1,out _ mo1,hs1⟩
 |false=>
 rw[if_neg (by rw[hdd];decide)]at hZ
 refine CF (J0 (J1 ?_))
 cases hE:D.ext? id with
 |some y=>
  obtain⟨j,y⟩:=y
  rw[hE]at hZ
  have q1:decide ((j:Int)≥0)=true:=by simp
  simp only[Xl]
  refine S1 @q1 ?_
  refine CT (J0 (R0 ?_))
  refine T0 ?_
  subst hZ
  exact⟨_,Thin.refl _,rfl,h1,out _ mo1,hs1⟩
 |none=>
 rw[hE]at hZ
 have q1:decide ((-1:Int)≥0)=false:=rfl
 simp only[Xm]
 refine S1 @q1 ?_
 refine CF (J0 (J1 ?_))
 cases hR:D.rec? id with
 |none=>
  rw[hR]at hZ
  have q2:decide ((-1:Int)<0)=true:=rfl
  simp only[Xm]
  refine S1 @q2 ?_
  refine CT (J0 (R0 ?_))
  refine T0 ?_
  subst hZ
  exact⟨_,Thin.refl _,rfl,h1,out _ mo1,hs1⟩
 |some y=>
 obtain⟨j,r⟩:=y
 rw[hR]at hZ
 simp only at hZ
 obtain⟨hj,b,s',r1,hbK,gb⟩:=h1.recAt (X3 hR).1
 have fit:=h1.ok.fitO r (qv (X3 hR).1)
 obtain⟨fv,fb0,fb1,fgl⟩:=fit
 have hn2:=Uc (verify_ok fv)
 have hfit:fitX D.key d.old.length r.x:=⟨fv,fb0,fb1⟩
 have hmx:Jz r.x=true:=fit_may hfit hlen0
 have gl:r.got.length≤256:=by omega
 have q2:decide ((j:Int)<0)=false:=decide_eq_false (by omega)
 have z0:(0:Int)≤(j:Int):=by omega
 have z8:(j:Int)<((4:Nat):Int):=by omega
 have z8':(j:Int)<4:=by omega
 rw[hrow]at r1
 simp only[Xl]
 refine S1 @q2 ?_
 refine CF (J0 (R9 @z0 @z8 @z8' @and_self @qi @hrow @r1 @gb @rowS ?_))
 refine K0 (full_at r.got gl M1) ?_
 refine CC (!(r.got.all fun b=>b)) (fun hq=>J0 (R0 ?_)) (fun hq=>J6 ?_)
 ·rw[if_pos (by simpa using hq)]at hZ
  refine T0 ?_
  subst hZ
  exact⟨_,Thin.refl _,rfl,h1,out _ mo1,hs1⟩
 rw[if_neg (by simpa using hq)]at hZ
 refine S0 ?_
 refine J0 (J1 ?_)
 simp only[zZ,reduceIte,yQ,yW,yX,yZ,yJ,yK,yV,zDk,Jc,Jd,J9,J8,Zy,z0,z8,z8',and_self,qi,hrow,r1,gb,rowX,halX,Mem.get_push_new,agg8,put8]
 obtain⟨b7,hb7⟩:∃b,b=M1.size:=⟨_,rfl⟩
 obtain⟨M2,hM2⟩:∃M2,M2=(M1.push (.cells false s1 noExt.cells)).set M1.size (some (.cells false s1 r.x.cells)):=⟨_,rfl⟩
 rw[←hM2,←hb7]
 have g7:M2.get b7=some (.cells false s1 r.x.cells):=by rw[hM2,hb7];exact Mem.get_set_same (Mem.get_push_new _ _) _
 have mo2:More M1 M2:=⟨fun b x hb=>by
  have:=Mem.get_lt hb
  rw[hM2,Mem.get_set_ne (by omega),Mem.get_push_old this];exact hb,by rw[hM2,Mem.size_set,Mem.size_push];omega⟩
 have mo02:=mo1.trans mo2
 have h2:=h1.same mo2.get
 refine J0 (R2 @g7 @row8 ?_)
 refine⟨by kernel_rfl,_,blocks_spec P p q g d D M2 h2 r.x r.x.head.n.toNat (by omega) fb0 fb1,?_⟩
 rintro _ M3 ⟨V,rfl,hown,mo3⟩
 have mo03:=mo02.trans mo3
 have h3:=h2.same mo3.get
 have g73:=mo3.get _ _ g7
 have eb:(Qp d r.x).2=0:=by unfold Qp;rw[if_neg (by rw[hdd];simp)]
 rw[eb]
 have q3:((0:Int) !=0)=false:=rfl
 refine S0 ?_
 refine J0 (J0 (R1 @q3 ?_))
 refine CF (J6 ?_)
 obtain⟨L,hL⟩:∃L,L=(Qp d r.x).1:=⟨_,rfl⟩
 have hLl:L.length≤256:=by rw[hL];have:=blocksD_len d r.x;omega
 have hLs:∀b∈L,b.length≤1000000:=fun b hb=>by rw[hL]at hb;have:=blocksD_size d r.x b hb;omega
 rw[←hL]at hown hZ
 obtain⟨N,pe,pN⟩:=aroot_exact L (by omega) hLs M3 V hown.strs
 have mo4:More M3 (M3.app N):=⟨fun b x hb=>Zs M3 N b x hb,by rw[Up];omega⟩
 refine S0 ?_
 refine J0 (J0 (CW_drawG hmix 5 (by kernel_rfl) (by kernel_rfl) ?_))
 simp only[zZ,reduceIte,yQ,yW,yX,yZ,yJ,yK,yV,zDk,Jc,Jd,J9,J8,Zy,VH,JY,Qy,QS,isVal,sGuardedV,Q4,Qm,yY,qu]
 refine⟨by kernel_rfl,_,N,pe,pN,?_⟩
 obtain⟨M4,hM4⟩:∃M4,M4=M3.app N:=⟨_,rfl⟩
 have mo04:More M M4:=by rw[hM4];exact mo03.trans mo4
 have h4:DepAt M4 P p q g d D:=by rw[hM4];exact h3.same mo4.get
 have g74:M4.get b7=some (.cells false s1 r.x.cells):=by rw[hM4];exact mo4.get _ _ g73
 have hs4:=mo04.size
 simp only[zZ,reduceIte,yQ,yW,yX,yZ,yJ,yK,yV,zDk,Jc,Jd,J9,J8,Zy,VH,JY,Qy,QS,isVal,sGuardedV,Q4,Qm,yY,qu,g73,k5]
 rw[←hM4]
 refine CC (!beqB (str (rootV L)) r.x.head.root) (fun hq=>J0 (R0 ?_)) (fun hq=>J6 ?_)
 ·rw[if_pos (fun e=>by rw[e,beqB_dec]at hq;simp at hq)]at hZ
  refine T0 ?_
  subst hZ
  exact⟨_,Thin.refl _,rfl,h4,out _ mo04,hs4⟩
 rw[if_neg (fun hne=>by
  apply hne
  rw[beqB_dec]at hq
  simpa using hq)]at hZ
 obtain⟨s4,vo4,vk4,hrow4,ho4,hk4⟩:=h4.row
 have l44:vo4.length=4:=by rw[ho4.len,h4.ok.opn]
 have l84:vk4.length=8:=by rw[hk4.len,h4.ok.kept]
 have fr:=freeext_spec P 7 s4 8 _ M4 _ vk4 D.kept hrow4 (fun i v hv=>by
  have:=(qk.1 hv).1
  rw[depC_kept _ _ _ _ l44 l84 _ (by omega)];exact hv) hk4 (by rw[h4.ok.kept];decide)
 rw[h4.ok.kept]at fr
 refine S0 ?_
 refine J0 (R2 @hrow4 @sl_A8 ?_)
 refine K0 (fr) ?_
 cases hF:QP D.kept 0 with
 |none=>
  rw[hF]at hZ
  have e1:freeI (none:Option Nat)= -1:=rfl
  have q4:decide ((-1:Int)<0)=true:=rfl
  rw[e1]
  refine J0 (J0 (R1 @q4 ?_))
  refine CT (J0 (R0 ?_))
  refine T0 ?_
  subst hZ
  exact⟨_,Thin.refl _,rfl,h4,out _ mo04,hs4⟩
 |some i=>
 rw[hF]at hZ
 simp only at hZ
 have hi8:i<8:=by have:=(free_in _ _ _ hF).2;rw[h4.ok.kept]at this;omega
 have e1:freeI (some i)=(i:Int):=rfl
 have q4:decide ((i:Int)<0)=false:=decide_eq_false (by omega)
 rw[e1]
 refine J0 (J0 (R1 @q4 ?_))
 refine CF (J6 ?_)
 have ks:=keep_spec P p q g d D M4 h4 i hi8 r.x hmx hfit
 obtain⟨K,hK⟩:∃K,K=Dep.keep d D i r.x:=⟨_,rfl⟩
 rw[←hK]at ks hZ
 have hKl:K.1.old.length=d.old.length:=by
  rw[hK,keep_rest]
  split
  ·exact Qw _ _ _
  ·split
   ·exact(sync_len _).trans (Qw _ _ _)
   ·exact(sync_len _).trans (Qw _ _ _)
 refine S0 ?_
 refine J0 (J0 (R2 @g74 @row8 ?_))
 refine⟨by kernel_rfl,_,ks,?_⟩
 rintro _ M5 ⟨rfl,h5,o5,hs5⟩
 have o05:=(out _ mo04).trans o5
 refine S0 ?_
 refine J0 (R0 ?_)
 refine CC (K.2.2 !=0) (fun hq=>J0 (R0 ?_)) (fun hq=>J6 ?_)
 ·rw[if_pos (by simpa using hq)]at hZ
  refine T0 ?_
  subst hZ
  exact⟨_,Thin.refl _,rfl,h5,o05,by omega⟩
 rw[if_neg (by simpa using hq)]at hZ
 have hKo:K.2.1.opn=D.opn:=by
  rw[hK,keep_rest]
  split
  ·rfl
  ·split<;>rfl
 obtain⟨s5,vo5,vk5,hrow5,ho5r,hk5⟩:=h5.row
 have l45:vo5.length=4:=by rw[ho5r.len,h5.ok.opn]
 have l85:vk5.length=8:=by rw[hk5.len,h5.ok.kept]
 have ln:=Vy p K.2.1 vo5 vk5 l45 l85
 have hput:Jk 1 M5 P (3+j) [.pointer none] (some (.cells false s5 (JG p K.2.1 vo5 vk5)))=some (M5.set P (some (.cells false s5 ((JG p K.2.1 vo5 vk5).set (3+j) (.pointer none))))):=by
  simp only[Jk]
  rw[if_pos ⟨rfl,by show 3+j+1≤(JG p K.2.1 vo5 vk5).length;omega,rfl⟩]
  rfl
 have h6:=h5.turnO ho5r hk5 hrow5 j hj none (fun y hy=>by cases hy) (.pointer none) rfl
 rw[hKo]at h6
 obtain⟨M6,hM6⟩:∃M6,M6=M5.set P (some (.cells false s5 ((JG p K.2.1 vo5 vk5).set (3+j) (.pointer none)))):=⟨_,rfl⟩
 have o06:Only [P,p,q,g] M M6:=by rw[hM6];exact o05.trans (Only.set (by simp) _)
 have hs6:M6.size=M5.size:=by rw[hM6,Mem.size_set]
 rw[←hM6]at h6 hput
 obtain⟨s6,vo6,vk6,hrow6,ho6r,hk6⟩:=h6.row
 have w1:IntKind.i64.wrap (1+(j:Int))=((1+j:Nat):Int):=by rw[XJ (by omega) (by omega)];omega
 obtain⟨U,hU⟩:∃U,U=K.1.write ((1+j:Nat):Int) []:=⟨_,rfl⟩
 have ws:=XI M6 p q g K.1 h6.dsk ((1+j:Nat):Int) [] (by simp)
 rw[←hU]at ws hZ
 have hul:U.1.old.length=K.1.old.length:=by rw[hU];exact Qw _ _ _
 refine S0 ?_
 refine J0 (R7 @hrow5 @z0 @z8 @z8' @and_self @qi @hput ?_)
 refine J0 (R3 @hrow6 @c0 @w1 ?_)
 refine⟨by kernel_rfl,_,ws,?_⟩
 rintro _ M7 ⟨rfl,hd7,ho7,hs7⟩
 have ho7':Only [p,q,g] M6 M7:=ho7.mono (by simp)
 have h7:=h6.disk hd7 hul ho7'
 refine S0 ?_
 refine T0 ?_
 subst hZ
 exact⟨_,Thin.refl _,rfl,h7,o06.trans (tail3 ho7'),by omega⟩
theorem commit_none(id:Int)(M:Mem):
 Abs.Spec qc 25 [.pointer none,.int .i64 id] M fun u M'=>u=.int .i64 8∧More M M':=by
 refine WM Tryz.func25 Tryz.results25 Tryz.ntmps25 fun _=>?_
 have q1:decide ((-1:Int)<0)=true:=rfl
 have q2:decide ((-1:Int)≥0)=false:=rfl
 refine J0 (R0 ?_)
 refine J0 (R0 ?_)
 refine⟨by kernel_rfl,_,Uk id M,?_⟩
 rintro _ M1 ⟨rfl,mo⟩
 refine S0 ?_
 refine J0 (Ja (J0 (R0 ?_)))
 refine CF (J0 (R1 @q2 ?_))
 refine CF (J0 (R1 @q1 ?_))
 refine CT (J0 (R0 ?_))
 refine T0 ?_
 exact⟨_,Thin.refl _,mo⟩
theorem stage_none(id i:Int)(s:ByteArray)(M:Mem):
 Abs.Spec qc 24 [.pointer none,.int .i64 id,.int .i64 i,.string s] M fun u M'=>u=.int .i64 8∧More M M':=by
 refine WM Tryz.func24 Tryz.results24 Tryz.ntmps24 fun _=>?_
 have q1:decide ((-1:Int)<0)=true:=rfl
 refine J0 (R0 ?_)
 refine J0 (R0 ?_)
 refine⟨by kernel_rfl,_,Uk id M,?_⟩
 rintro _ M1 ⟨rfl,mo⟩
 refine S0 ?_
 refine J0 (Ja (J0 (R0 ?_)))
 refine CF (J0 (R1 @q1 ?_))
 refine CT (J0 (R0 ?_))
 refine T0 ?_
 exact⟨_,Thin.refl _,mo⟩
theorem add_none(secret:ByteArray)(h:Header)(a:Option Addr)(n c:Nat)(M:Mem):
 Abs.Spec qc 27 [.pointer none,.string secret,.agg (JO h (.slice a n c)).toArray] M fun u M'=>u=.int .i64 8∧More M M':=by
 refine WM Tryz.func27 Tryz.results27 Tryz.ntmps27 fun _=>?_
 have bx:QK qc 61 (.agg (JO h (.slice a n c)).toArray)=some (.cells false (J5 qc 61) (JO h (.slice a n c))):=bx_Arc _ rfl
 generalize J5 qc 61=s1 at bx
 refine J0 (R1 @bx ?_)
 refine J0 (J0 (R0 ?_))
 refine CT (J0 (R0 ?_))
 refine T0 ?_
 exact⟨_,Thin.refl _,More.push _ _⟩
end Go.Proofs.YteccmcpaheepcaaGreatDoor
namespace Go.Proofs.YteccmcpaheepcaaGreatDoor
open Go.RowKit Abs Stab
theorem Hdr_zero:Tryz.t33.zero=some (.agg noHead.cells.toArray):=by kernel_rfl
theorem Hdr_bytes:Tryz.t33.bytes≤1000:=by decide
theorem new_hdr1(x:Header):JF qc 47 1 [(0,.agg x.cells.toArray)]=some (.cells false 7 x.cells):=by kernel_rfl
theorem hdapp{k:Nat}{M:Mem}{V:Value}{L:List Header}(h:ZV k M V L)(hk:k≤M.size)(hl:L.length≤1000000)(x:Header):
 ∃M' V',JN qc (M.push (.cells false 7 x.cells)) 47 47 V (.slice (some ⟨M.size,0,none⟩) 1 1)=some (V',M')∧ZT V'=some (M.size+1)∧ZV k M' V' (L++[x])∧
  M'.size=M.size+2∧(∀b y,ZT V≠some b→M.get b=some y→M'.get b=some y):=
 oapp Tryz.underlying47 inf_Hdr Hdr_zero sz_Hdr rfl Tryz.underlying47 (fun _=>rfl) Hdr_bytes h hk hl x 7
theorem keptcmp_ok:CmpOk 81:=by
 refine⟨by kernel_rfl,fun a b ha hb m=>?_⟩
 refine Abs.Spec.of_empty (by intro x hx;simp at hx;rcases hx with rfl|rfl<;>rfl) rfl ?_ m
 have w:IntKind.i64.wrap (a.id-b.id)=a.id-b.id:=XJ (by omega) (by omega)
 have b1:QK qc 33 (.agg a.cells.toArray)=some (.cells false (J5 qc 33) a.cells):=bx_Hdr _ rfl
 have b2:QK qc 33 (.agg b.cells.toArray)=some (.cells false (J5 qc 33) b.cells):=bx_Hdr _ rfl
 generalize J5 qc 33=s1 at b1 b2
 have c1:∀h:Header,cellIn 0 (some (.cells false s1 h.cells))=some (.int .i64 h.id):=fun h=>rfl
 have g1:(((⟨[]⟩:Mem).push (.cells false s1 a.cells)).push (.cells false s1 b.cells)).get (⟨[]⟩:Mem).size=some (.cells false s1 a.cells):=rfl
 have g2:(((⟨[]⟩:Mem).push (.cells false s1 a.cells)).push (.cells false s1 b.cells)).get ((⟨[]⟩:Mem).push (.cells false s1 a.cells)).size=some (.cells false s1 b.cells):=rfl
 refine WM Tryz.func81 Tryz.results81 Tryz.ntmps81 fun _=>?_
 refine J0 (R2 @b1 @b2 ?_)
 refine J0 (R4 @g1 @g2 @c1 @w ?_)
 refine T0 ?_
 first|exact⟨_,Thin.refl _,rfl⟩|exact⟨_,Thin.refl _⟩|exact⟨_,Thin.refl _,rfl,rfl⟩
theorem kept_spec(P p q g:Nat)(d:Dsk)(D:Dep)(M:Mem)(h:DepAt M P p q g d D):
 Abs.Spec qc 30 [.pointer (some ⟨P,0,none⟩)] M fun u M'=>ZV M.size M' u D.keptL∧More M M':=by
 refine WM Tryz.func30 Tryz.results30 Tryz.ntmps30 fun _=>?_
 obtain⟨s,vo,vk,hrow,ho,hk⟩:=h.row
 have l4:vo.length=4:=by rw[ho.len,h.ok.opn]
 have l8:vk.length=8:=by rw[hk.len,h.ok.kept]
 have rk:=row_kept s p D l4 l8
 have z9:∀i:Nat,i<100→IntKind.i64.wrap ((i:Int)+1)=((i+1:Nat):Int):=fun i hi=>by rw[XJ (by omega) (by omega)];omega
 refine J0 (R0 ?_)
 refine J0 (R0 ?_)
 refine XQ (fun f M'=>∃V,f=[(3,V)]∧ZV M.size M' V ((D.kept.filterMap id).map Ext.head)∧(∀b x,b<M.size→M.get b=some x→M'.get b=some x)∧M.size≤M'.size) ?_ ?_
 ·refine J0 (R0 ?_)
  refine CT (J0 (R2 @hrow @rk ?_))
  refine Ja (JD (fun j f M'=>∃(i:Nat)(V:Value),j=8-i∧f=[(3,V),(11,.agg vk.toArray),(12,.int .i64 (i:Nat))]∧i≤8∧
   ZV M.size M' V (((D.kept.take i).filterMap id).map Ext.head)∧(∀b x,b<M.size→M.get b=some x→M'.get b=some x)∧M.size≤M'.size) 8 ?_ ?_)
  ·refine JK [3,11,12] ?_
   exact⟨M,Thin.refl _,0,_,rfl,rfl,by omega,OwnL.nil _ _,fun _ _ _ h=>h,qt _⟩
  ·rintro j f M' ⟨i,V,rfl,rfl,hi,hown,hold,hsz⟩
   refine J0 (R0 ?_)
   refine J0 (CC (decide ((i:Int)<8)) (fun hq=>J6 ?_) (fun hq=>JE ?_))
   ·have hi8:=of_decide_eq_true hq
    obtain⟨o,hoi⟩:∃o,D.kept[i]?=some o:=⟨_,qm (by rw[h.ok.kept];omega)⟩
    obtain⟨v,hv,hp⟩:=hk.at_ i o hoi
    have ix:=ix_A8 l8 hv
    have hst:=filtm_step hoi
    have w9:=z9 i (by omega)
    refine S0 ?_
    refine J0 (Ja (J0 (R1 @ix ?_)))
    refine J0 (J1 ?_)
    cases o with
    |none=>
     obtain rfl:v=.pointer none:=hp
     rw[Option.toList_none,qf]at hst
     refine S0 ?_
     refine CF (J6 ?_)
     refine S0 ?_
     refine R1 @w9 ?_
     refine JK [3,11,12] ?_
     exact⟨_,Thin.refl _,8-(i+1),⟨i+1,V,rfl,rfl,by omega,by rw[hst];exact hown,hold,hsz⟩,by omega⟩
    |some x=>
     obtain⟨b,s',hb,rfl,gb⟩:=hp
     rw[Option.toList_some]at hst
     have gb':=hold _ _ (Mem.get_lt gb) gb
     have rx:Jm 7 0 (some (.cells false s' x.cells))=some (.agg (x.head).cells.toArray):=rfl
     have nw:=new_hdr1 (x.head)
     obtain⟨M4,V4,ap4,hb4,hown4,hs4,hold4⟩:=hdapp hown hsz (by have:=filtm_len D.kept i;rw[h.ok.kept]at this;rw[List.length_map];omega) (x.head)
     refine S0 ?_
     refine CT (R4 @gb' @rx @nw @ap4 ?_)
     refine R1 @w9 ?_
     refine JK [3,11,12] ?_
     have e4:((D.kept.take i).filterMap id).map Ext.head++[x.head]=((D.kept.take (i+1)).filterMap id).map Ext.head:=by rw[hst,List.map_append];rfl
     rw[e4]at hown4
     exact⟨_,Thin.refl _,8-(i+1),⟨i+1,V4,rfl,rfl,by omega,hown4,fun b y hb hy=>hold4 b y (fun e=>by have:=(hown.live e).1;omega) (hold b y hb hy),by omega⟩,by omega⟩
   ·have hi8:=of_decide_eq_false hq
    obtain rfl:i=8:=by omega
    rw[List.take_of_length_le (by rw[h.ok.kept];decide)]at hown
    refine JK [3] ?_
    exact⟨_,Thin.refl _,V,rfl,hown,hold,hsz⟩
 rintro _ M2 ⟨V2,rfl,hown2,hold2,hs2⟩
 have so:=sorth_own 81 keptcmp_ok M.size M2 V2 _ hown2 (by rw[List.length_map];have:=qw id D.kept;rw[h.ok.kept]at this;omega) (fun x hx=>by
  obtain⟨y,hy,rfl⟩:=List.mem_map.1 hx
  obtain⟨o,ho1,ho2⟩:=List.mem_filterMap.1 hy
  cases ho2
  have:=(verify_ok (h.ok.fitK y ho1).1)
  have h1:=this.1
  have h2:=this.2.1
  exact⟨by omega,by omega⟩)
 unfold cmpH at so
 refine J0 (R0 ?_)
 refine⟨by kernel_rfl,_,so,?_⟩
 rintro _ M3 ⟨rfl,⟨R,hR,hown3⟩,hold3,hs3⟩
 rw[heads_eq hR]at hown3
 refine S0 ?_
 refine J0 (R0 ?_)
 refine T0 ?_
 exact⟨_,Thin.refl _,hown3,fun b x hb=>hold3 b x (fun e=>by have:=(hown2.live e).1;have:=Mem.get_lt hb;omega) (hold2 b x (Mem.get_lt hb) hb),by omega⟩
theorem kept_none(M:Mem):
 Abs.Spec qc 30 [.pointer none] M fun u M'=>u=.slice none 0 0∧More M M':=by
 refine WM Tryz.func30 Tryz.results30 Tryz.ntmps30 fun _=>?_
 have so:=sorth_nil 81 keptcmp_ok M
 unfold cmpH at so
 refine J0 (R0 ?_)
 refine J0 (R0 ?_)
 refine J0 (J0 (R0 ?_))
 refine CF (J6 ?_)
 refine S0 ?_
 refine J0 (R0 ?_)
 refine⟨by kernel_rfl,_,so,?_⟩
 rintro _ M3 ⟨rfl,rfl⟩
 refine S0 ?_
 refine J0 (R0 ?_)
 refine T0 ?_
 exact⟨_,Thin.refl _,More.refl _⟩
theorem undercmp_ok:CmpOk 67:=by
 refine⟨by kernel_rfl,fun a b ha hb m=>?_⟩
 refine Abs.Spec.of_empty (by intro x hx;simp at hx;rcases hx with rfl|rfl<;>rfl) rfl ?_ m
 have w:IntKind.i64.wrap (a.id-b.id)=a.id-b.id:=XJ (by omega) (by omega)
 have b1:QK qc 33 (.agg a.cells.toArray)=some (.cells false (J5 qc 33) a.cells):=bx_Hdr _ rfl
 have b2:QK qc 33 (.agg b.cells.toArray)=some (.cells false (J5 qc 33) b.cells):=bx_Hdr _ rfl
 generalize J5 qc 33=s1 at b1 b2
 have c1:∀h:Header,cellIn 0 (some (.cells false s1 h.cells))=some (.int .i64 h.id):=fun h=>rfl
 have g1:(((⟨[]⟩:Mem).push (.cells false s1 a.cells)).push (.cells false s1 b.cells)).get (⟨[]⟩:Mem).size=some (.cells false s1 a.cells):=rfl
 have g2:(((⟨[]⟩:Mem).push (.cells false s1 a.cells)).push (.cells false s1 b.cells)).get ((⟨[]⟩:Mem).push (.cells false s1 a.cells)).size=some (.cells false s1 b.cells):=rfl
 refine WM Tryz.func67 Tryz.results67 Tryz.ntmps67 fun _=>?_
 refine J0 (R2 @b1 @b2 ?_)
 refine J0 (R4 @g1 @g2 @c1 @w ?_)
 refine T0 ?_
 first|exact⟨_,Thin.refl _,rfl⟩|exact⟨_,Thin.refl _⟩|exact⟨_,Thin.refl _,rfl,rfl⟩
theorem under_none(M:Mem):
 Abs.Spec qc 18 [.pointer none] M fun u M'=>u=.slice none 0 0∧More M M':=by
 refine WM Tryz.func18 Tryz.results18 Tryz.ntmps18 fun _=>?_
 have so:=sorth_nil 67 undercmp_ok M
 unfold cmpH at so
 refine J0 (R0 ?_)
 refine J0 (R0 ?_)
 refine J0 (J0 (R0 ?_))
 refine CF (J6 ?_)
 refine S0 ?_
 refine J0 (R0 ?_)
 refine⟨by kernel_rfl,_,so,?_⟩
 rintro _ M3 ⟨rfl,rfl⟩
 refine S0 ?_
 refine J0 (R0 ?_)
 refine T0 ?_
 exact⟨_,Thin.refl _,More.refl _⟩
end Go.Proofs.YteccmcpaheepcaaGreatDoor
namespace Go.Proofs.YteccmcpaheepcaaGreatDoor
open Go.RowKit Abs
theorem hdrs_len{k:Nat}{M:Mem}{V:Value}{L:List Header}(h:ZV k M V L):∃a c,V=.slice a L.length c:=OwnL.len h
theorem awake25_spec(M:Mem):Abs.Spec qc 15 [] M fun u M'=>u=.bool true∧More M M':=by
 obtain⟨key,hkey⟩:∃k,k=Sha.headKey ([115]:List UInt8):=⟨_,rfl⟩
 have hkl:key.length≤1000000:=by rw[hkey,U0];decide
 obtain⟨A,hA⟩:∃A,A=V3 [115] saltL 1 hello 1000:=⟨_,rfl⟩
 have hmade:madeOf [115] [hello]=[A]:=by rw[hA];rfl
 have hok:ArcOk key A:=by
  have:=(made_ok (sec:=[115]) (T:=[hello]) (a:=A) (by rw[hmade];simp)).1
  rw[hkey];exact this
 have hbl:A.blocks.length=1:=by rw[hA,arcOf_len];rfl
 obtain⟨b0,hb0⟩:∃b,A.blocks[0]?=some b:=⟨_,qm (by omega)⟩
 have hb224:b0.length=224:=hok.size b0 (qv hb0)
 have hid:A.head.id=1:=by rw[hA];rfl
 obtain⟨d1,G,d2,d3,w1,w2,w3⟩:=wake_plain key A hok hbl b0 hb0
 rw[hid]at w2 w3
 have e1:(⟨#[115]⟩:ByteArray)=str [115]:=rfl
 have e5:(⟨#[104,101,108,108,111]⟩:ByteArray)=str hello:=rfl
 have q0:((0:Int) !=0)=false:=rfl
 have q1:((1:Int) !=1)=false:=rfl
 have q2:((0:Int)==0)=true:=rfl
 have q3:(((1:Nat):Int)==1)=true:=rfl
 have q4:(((0:Nat):Int) !=0)=false:=rfl
 refine WM Tryz.func15 Tryz.results15 Tryz.ntmps15 fun _=>?_
 refine J0 (R0 ?_)
 refine J0 (R0 ?_)
 refine⟨by kernel_rfl,_,new_spec M 20 (by decide) (by decide),?_⟩
 rintro _ M1 ⟨p,q,g,rfl,hd1,hp,hq,hg,ho1,hs1⟩
 have hdp:dp p=.pointer (some ⟨p,0,none⟩):=rfl
 have pl:p<M1.size:=by obtain⟨s,h⟩:=hd1.row;exact Q3 h
 have ql:q<M1.size:=Q3 hd1.kv
 have gl:g<M1.size:=Q3 hd1.old
 refine S0 ?_
 obtain⟨M2,hM2⟩:∃M2,M2=M1.push (.cells false 1 (encS hello)):=⟨_,rfl⟩
 have hs2:M2.size=M1.size+1:=by rw[hM2,Mem.size_push]
 have nw:=Ud hello
 have rd:StrsRd M2 (.slice (some ⟨M1.size,0,none⟩) 1 1) [hello]:=⟨_,_,rfl,qt _,(fun e=>by cases e),fun i x hx=>by
  obtain rfl:i=0:=by
   cases i with
   |zero=>rfl
   |succ i=>cases hx
  cases hx
  exact⟨M1.size,0,false,_,rfl,by rw[hM2,Mem.get_push_new],rfl⟩⟩
 refine J0 (R3 @e1 @e5 @nw ?_)
 rw[←hM2]
 refine⟨by kernel_rfl,_,made_spec [115] (by decide) [hello] (by decide) (by intro t ht;simp at ht;subst ht;decide) M2 _ rd,?_⟩
 rintro VL M3 ⟨LA,hLA,hown,mo3⟩
 rw[hmade]at hLA
 obtain⟨x,rfl,hx⟩:∃x,LA=[x]∧x.1=A:=by
  match LA,hLA with
  | [x],h=>exact⟨x,rfl,by simpa using h⟩
 obtain⟨xa,xv⟩:=x
 obtain rfl:xa=A:=hx
 have hd3:DskAt M3 p q g (JJ 20):=(hd1.same fun b x hb=>by rw[hM2,Mem.get_push_old (Mem.get_lt hb)];exact hb).same mo3.get
 have hs3:=mo3.size
 rcases hown.1 with⟨h0,_⟩|⟨_,gA,hgA,rfl,gA3⟩
 ·cases h0
 have hbs:=hown.2 _ (qq.2 rfl)
 simp only at hbs
 rcases hbs with⟨h0,_⟩|⟨_,gB,hgB,rfl,gB3⟩
 ·rw[h0]at hbl;cases hbl
 rw[hbl]
 have gA3':M3.get gA=some (.cells false 8 (JO xa.head (.slice (some ⟨gB,0,none⟩) 1 1))):=by
  rw[gA3]
  simp only[List.flatMap_cons,List.flatMap_nil,qf]
  unfold arcV
  rw[hbl]
 have rowA:∀s,Jm 7 0 (some (.cells false s (JO xa.head (.slice (some ⟨gB,0,none⟩) 1 1))))=some (.agg xa.head.cells.toArray):=fun _=>rfl
 have k7A:∀s,cellIn 7 (some (.cells false s (JO xa.head (.slice (some ⟨gB,0,none⟩) 1 1))))=some (.slice (some ⟨gB,0,none⟩) 1 1):=fun _=>rfl
 have cB:cellIn 0 (some (.cells false 1 (xa.blocks.flatMap encS)))=some (.string (str b0)):=by
  show(xa.blocks.flatMap fun s=>[Value.string (str s)])[0]?=_
  rw[flat_one,List.getElem?_map,hb0];rfl
 have lA:=Mem.get_lt gA3
 have lB:=Mem.get_lt gB3
 refine S1 @List.length_singleton.{0} ?_
 refine J0 (J0 (R2 @q0 @hdp ?_))
 refine CF (J6 ?_)
 refine S0 ?_
 refine J0 (R2 @e1 @hdp ?_)
 have os:=open_spec M3 p q g (JJ 20) hd3 (str [115]) (by decide)
 rw[show(str [115]).data.toList=([115]:List UInt8)from rfl,←hkey,open_new 20 (by decide) (by decide) key,hdp]at os
 refine⟨by kernel_rfl,_,os,?_⟩
 rintro _ M4 ⟨v,rfl,hopen,ho4,hs4⟩
 obtain⟨P,rfl,hP,hat4⟩:=hopen
 have hat4:DepAt M4 P p q g (JT 20) (Dp0 key 1 0):=hat4
 have gA4:=ho4 gA _ (by simp;omega) gA3'
 have gB4:=ho4 gB _ (by simp;omega) gB3
 have eep:((some (Dp0 key 1 0):Option Dep).map Dep.epoch).getD 0=1:=rfl
 have sep:=depoch_spec P p q g (JT 20) (some (Dp0 key 1 0)) _ M4 ⟨rfl,hat4⟩
 rw[eep]at sep
 refine S0 ?_
 refine J0 (J0 (R1 @q0 ?_))
 refine K1 @q1 (sep) ?_
 refine⟨by kernel_rfl,_,kept_spec P p q g (JT 20) (Dp0 key 1 0) M4 hat4,?_⟩
 rintro K M5 ⟨hK,mo5⟩
 rw[kept_d0]at hK
 obtain⟨aK,cK,rfl⟩:=hdrs_len hK
 refine S2 @qr.{0} @q4 ?_
 refine CF (J6 ?_)
 have hat5:=hat4.same mo5.get
 have gA5:=mo5.get _ _ gA4
 have gB5:=mo5.get _ _ gB4
 have z0:(0:Int)≤0:=by omega
 have z1:(0:Int)<((1:Nat):Int):=by omega
 have z1':(0:Int)<1:=by omega
 have z2:(0:Int).toNat=0:=rfl
 have bs:=begin_spec P p q g (JT 20) (Dp0 key 1 0) xa.head M5 hat5 hkl (by simp[JT])
 rw[w1]at bs
 refine S0 ?_
 refine J0 (R8 @z0 @z1 @z1' @z2 @and_self @Nat.zero_mul @gA5 @rowA ?_)
 refine⟨by kernel_rfl,_,bs,?_⟩
 rintro _ M6 ⟨rfl,hat6,ho6,hs6⟩
 have gA6:=ho6 gA _ (by simp;have:=mo5.size;omega) gA5
 have gB6:=ho6 gB _ (by simp;have:=mo5.size;omega) gB5
 have ss:=stage_spec P p q g d1 (ZW key xa 1 0 G) 1 0 b0 (by omega) ⟨by show(-1000000:Int)≤0;decide,by show(0:Int)≤1000000000;decide⟩ M6 hat6
 rw[w2]at ss
 refine S0 ?_
 refine J0 (J1 ?_)
 simp only[zZ,reduceIte,yQ,yW,yX,yZ,yJ,yK,yV,zDk,Jc,Jd,J9,J8,Zy,z0,z1,z1',z2,and_self,Nat.zero_mul,gA6,k7A,gB6,cB]
 refine⟨by kernel_rfl,_,ss,?_⟩
 rintro _ M7 ⟨rfl,hat7,ho7,hs7⟩
 have cs:=commit_spec P p q g d2 (ZW key xa 1 1 [true]) 1 M7 hat7
 rw[w3]at cs
 refine S0 ?_
 refine J0 (R0 ?_)
 refine⟨by kernel_rfl,_,cs,?_⟩
 rintro _ M8 ⟨rfl,hat8,ho8,hs8⟩
 refine S0 ?_
 refine J0 (R1 @q2 ?_)
 refine⟨by kernel_rfl,_,kept_spec P p q g d3 (Dp2 key xa 1 1) M8 hat8,?_⟩
 rintro K M9 ⟨hK,mo9⟩
 rw[kept_d2]at hK
 obtain⟨aK,cK,rfl⟩:=hdrs_len hK
 refine S2 @List.length_singleton.{0} @q3 ?_
 refine T0 ?_
 have old:∀b x,M.get b=some x→M9.get b=some x:=fun b x hb=>by
  have l:=Mem.get_lt hb
  have a1:=ho1 b x (by simp) hb
  have a2:M2.get b=some x:=by rw[hM2,Mem.get_push_old (by omega)];exact a1
  have a3:=mo3.get b x a2
  have a4:=ho4 b x (by simp;omega) a3
  have a5:=mo5.get b x a4
  have a6:=ho6 b x (by simp;omega) a5
  have a7:=ho7 b x (by simp;omega) a6
  exact mo9.get b x (ho8 b x (by simp;omega) a7)
 first|exact⟨_,Thin.refl _,rfl,old,by have:=mo5.size;have:=mo9.size;omega⟩|exact⟨_,Thin.refl _,old,by have:=mo5.size;have:=mo9.size;omega⟩
theorem i64_and15(n:Int):bits .and .i64 n 15=n%16:=by
 have h127:(BitVec.ofInt 64 15).toNat=2^4-1:=by decide
 have key:(BitVec.ofInt 64 n&&&BitVec.ofInt 64 15).toNat=(n%((2^64:Nat):Int)).toNat%2^4:=by
  rw[BitVec.toNat_and,BitVec.toNat_ofInt,h127,Nat.and_two_pow_sub_one_eq_mod]
 show IntKind.i64.wrap ((BitVec.ofInt 64 n&&&BitVec.ofInt 64 15).toNat:Nat)=n%16
 rw[key,IntKind.wrap_i64]
 omega
theorem depot_small(n id i:Int)(s:ByteArray)(hs:s.size≤140737488355000)(M:Mem):Abs.Spec qc 5 [.int .i64 n,.int .i64 id,.int .i64 i,.string s] M fun u _=>u=.bool true:=by
 obtain⟨N,hN1,hN2,hN⟩:∃N:Nat,1≤N∧N≤16∧IntKind.i64.wrap (1+bits BinOp.and IntKind.i64 n 15)=((N:Nat):Int):=by
  refine⟨(n%16).toNat+1,by omega,by omega,?_⟩
  rw[i64_and15,XJ (by omega) (by omega)]
  omega
 have q0:((0:Int) !=0)=false:=rfl
 have q1:((1:Int) !=1)=false:=rfl
 have q2:((0:Int)==0)=true:=rfl
 have q8:((8:Int)==8)=true:=rfl
 have q9:(((0:Nat):Int)==0)=true:=rfl
 refine WM Tryz.func5 Tryz.results5 Tryz.ntmps5 fun _=>?_
 have halH:Q0 qc 33=some (.cells false (J5 qc 33) noHead.cells):=al_Hdr
 generalize J5 qc 33=s1 at halH
 have halS:Q0 qc 57=some (.cells false (J5 qc 57) (setCells [])):=al_Set
 generalize J5 qc 57=s2 at halS
 have halA:Q0 qc 61=some (.cells false (J5 qc 61) (JO noHead (.slice none 0 0))):=al_Arc
 generalize J5 qc 61=s3 at halA
 have agg7:∀x:Header,(Value.agg x.cells.toArray).cells.toList=x.cells:=fun _=>rfl
 have put7:∀(M0:Mem)(b:Nat)(x y:Header),Jk 7 M0 b 0 y.cells (some (.cells false s1 x.cells))=some (M0.set b (some (.cells false s1 y.cells))):=fun _ _ _ _=>rfl
 have agg5:∀l,(QI l).cells.toList=setCells l:=fun _=>rfl
 have putS:∀(M0:Mem)(b:Nat)(x y:List Bool),Jk 5 M0 b 0 (setCells y) (some (.cells false s2 (setCells x)))=some (M0.set b (some (.cells false s2 (setCells y)))):=fun _ _ _ _=>rfl
 have agg8:∀(h:Header) V,(Value.agg (JO h V).toArray).cells.toList=JO h V:=fun _ _=>rfl
 have put8:∀(M0:Mem)(b:Nat)(x y:Header) V a n c,Jk 8 M0 b 0 (JO y (.slice a n c)) (some (.cells false s3 (JO x V)))=some (M0.set b (some (.cells false s3 (JO y (.slice a n c))))):=fun _ _ _ _ _ _ _ _=>rfl
 have hb0:Qt qc 33 []=some (.agg noHead.cells.toArray):=by kernel_rfl
 have hbA:Qt qc 61 []=some (.agg (JO noHead (.slice none 0 0)).toArray):=by kernel_rfl
 refine J0 (R0 ?_)
 refine J0 (R1 @hN ?_)
 refine J0 (R0 ?_)
 refine⟨by kernel_rfl,_,new_spec M N hN1 (by omega),?_⟩
 rintro _ M1 ⟨p,q,g,rfl,hd1,hp,hq,hg,ho1,hs1⟩
 have hdp:dp p=.pointer (some ⟨p,0,none⟩):=rfl
 refine S0 ?_
 refine J0 (J0 (R2 @q0 @hdp ?_))
 refine CF (J6 ?_)
 refine S0 ?_
 have os:=open_spec M1 p q g (JJ N) hd1 s hs
 obtain⟨key,hkey⟩:∃k,k=Sha.headKey s.data.toList:=⟨_,rfl⟩
 rw[←hkey,hdp]at os
 refine J0 (R0 ?_)
 refine⟨by kernel_rfl,_,os,?_⟩
 rintro _ M2 ⟨v,rfl,hopen,ho2,hs2⟩
 refine S0 ?_
 refine XQ (fun f M'=>f=[(1,.int .i64 id),(2,.int .i64 i),(3,.string s)]) ?_ ?_
 ·by_cases h13:N<13
  ·have ho:openD (JJ N) key=(JJ N,none,1):=by unfold openD;rw[if_pos (by rw[new_len];exact h13)]
   rw[ho]at hopen ⊢
   obtain⟨rfl,_⟩:=hopen
   have d1:decide (((N:Nat):Int)<13)=true:=decide_eq_true (by omega)
   refine J0 (R1 @d1 ?_)
   refine CT (J0 (R1 @q1 ?_))
   refine CF (J6 ?_)
   refine JK [1,2,3] ?_
   exact⟨_,Thin.refl _⟩
  ·rw[open_new N (by omega) (by omega) key]at hopen ⊢
   obtain⟨P,rfl,_,_⟩:=hopen
   have d1:decide (((N:Nat):Int)<13)=false:=decide_eq_false (by omega)
   refine J0 (R1 @d1 ?_)
   refine CF (J0 (R1 @q0 ?_))
   refine CF (J6 ?_)
   refine JK [1,2,3] ?_
   exact⟨_,Thin.refl _⟩
 rintro _ M3 rfl
 have none3:∀M:Mem,DepOr M 0 0 0 0 (JJ N) none (.pointer none):=fun _=>rfl
 refine J0 (R0 ?_)
 refine J0 (R0 ?_)
 refine⟨by kernel_rfl,_,head_spec 0 0 0 0 (JJ N) none _ id M3 (none3 M3),?_⟩
 rintro _ M4 ⟨rfl,_⟩
 have e1:headOr none id=(noHead,false,8):=rfl
 rw[e1]
 refine S4 @halH @Mem.get_push_new @agg7 @put7 ?_
 obtain⟨M5,hM5⟩:∃M5,M5=(M4.push (.cells false s1 noHead.cells)).set M4.size (some (.cells false s1 noHead.cells)):=⟨_,rfl⟩
 rw[←hM5]
 refine J0 (R0 ?_)
 refine⟨by kernel_rfl,_,got_spec 0 0 0 0 (JJ N) none _ id M5 (none3 M5),?_⟩
 rintro _ M6 ⟨rfl,_⟩
 have e2:gotOr none id=([],8):=rfl
 rw[e2]
 refine S4 @halS @Mem.get_push_new @agg5 @putS ?_
 obtain⟨M7,hM7⟩:∃M7,M7=(M6.push (.cells false s2 (setCells []))).set M6.size (some (.cells false s2 (setCells []))):=⟨_,rfl⟩
 rw[←hM7]
 refine J0 (R0 ?_)
 refine⟨by kernel_rfl,_,dread_spec 0 0 0 0 (JJ N) none _ id M7 (none3 M7),?_⟩
 rintro _ M8 ⟨V,rfl,hV,_⟩
 obtain⟨aV,cV,rfl⟩:=hV.len
 have e3:readOr (JJ N) none id=(noArc,8):=rfl
 rw[e3]
 have e4:noArc.head=noHead:=rfl
 rw[e4]
 refine S4 @halA @Mem.get_push_new @agg8 @put8 ?_
 obtain⟨M9,hM9⟩:∃M9,M9=(M8.push (.cells false s3 (JO noHead (.slice none 0 0)))).set M8.size (some (.cells false s3 (JO noHead (.slice aV noArc.blocks.length cV)))):=⟨_,rfl⟩
 rw[←hM9]
 refine J0 (R0 ?_)
 refine⟨by kernel_rfl,_,dblock_none id i M9,?_⟩
 rintro _ M10 ⟨rfl,_⟩
 refine S0 ?_
 refine J0 (R1 @hb0 ?_)
 refine⟨by kernel_rfl,_,begin_none noHead M10,?_⟩
 rintro _ M11 ⟨rfl,_⟩
 refine S1 @q8 ?_
 refine⟨by kernel_rfl,_,stage_none id i s M11,?_⟩
 rintro _ M12 ⟨rfl,_⟩
 refine S1 @q8 ?_
 refine⟨by kernel_rfl,_,commit_none id M12,?_⟩
 rintro _ M13 ⟨rfl,_⟩
 refine S1 @q8 ?_
 refine⟨by kernel_rfl,_,abort_none id M13,?_⟩
 rintro _ M14 ⟨rfl,_⟩
 refine S2 @q8 @hbA ?_
 refine⟨by kernel_rfl,_,add_none s noHead none 0 0 M14,?_⟩
 rintro _ M15 ⟨rfl,_⟩
 refine S1 @q8 ?_
 have e5:((none:Option Dep).map Dep.epoch).getD 0=0:=rfl
 have e6:((none:Option Dep).map Dep.staged).getD 0=0:=rfl
 have s5:=depoch_spec 0 0 0 0 (JJ N) none _ M15 (none3 M15)
 have s6:=dstaged_spec 0 0 0 0 (JJ N) none _ M15 (none3 M15)
 rw[e5]at s5
 rw[e6]at s6
 refine J0 (R1 @q8 ?_)
 refine K1 @q2 (s5) ?_
 refine K1 @q2 (s6) ?_
 refine⟨by kernel_rfl,_,kept_none M15,?_⟩
 rintro _ M16 ⟨rfl,_⟩
 refine S1 @q9 ?_
 refine⟨by kernel_rfl,_,under_none M16,?_⟩
 rintro _ M17 ⟨rfl,_⟩
 refine S1 @q9 ?_
 refine⟨by kernel_rfl,_,awake25_spec M17,?_⟩
 rintro _ M18 ⟨rfl,_⟩
 refine S0 ?_
 refine T0 ?_
 first|exact⟨_,Thin.refl _,rfl⟩|exact⟨_,Thin.refl _⟩|exact⟨_,Thin.refl _,rfl,rfl⟩
end Go.Proofs.YteccmcpaheepcaaGreatDoor
