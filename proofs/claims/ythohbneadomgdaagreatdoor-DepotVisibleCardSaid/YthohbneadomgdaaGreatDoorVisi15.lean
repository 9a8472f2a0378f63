import Derived.Orders
import Derived.Test.YthohbneadomgdaaGreatDoorVisi09
import Derived.Test.YthohbneadomgdaaGreatDoorVisi14
import Derived.Test.YthohbneadomgdaaGreatDoorVisi10
import Derived.Test.YthohbneadomgdaaGreatDoorVisi03
import Derived.Test.YthohbneadomgdaaGreatDoorVisi13
import Derived.Test.YthohbneadomgdaaGreatDoorVisi01
import Derived.Lib.FrozenHead2
import Derived.Laws.IdiomStrings
import Derived.Test.YthohbneadomgdaaGreatDoorVisi02
import Derived.Deep.QuietTactic
import Derived.BigQuiet
set_option linter.all false
set_option maxRecDepth 100000
set_option maxHeartbeats 16000000
open Nat renaming reduceLT→yQ,reduceEqDiff→yK,reduceAdd→yV,reduceSub→yY,reduceMul→yU
open Int renaming reduceToNat→yW,reduceLE→yX,reduceEq→yZ,reduceLT→yJ
open Go.Proofs.Tryz renaming prog→qc,underlying25→qm
open List renaming replicate→qd,getElem?_eq_getElem→qf,length_replicate→qh,filter_cons_of_pos→qi,length_append→qk,replicate_succ'→qo,length_set→qp,length_map→qq,pairwise_cons→qt
open Int renaming toNat_natCast→qe
open Nat renaming le_refl→qj
namespace Go.Proofs.YthohbneadomgdaaGreatDoor.Stab
section
variable {α : Type} (key : α → Int)
def Rising(l:List α):Prop:=l.Pairwise fun a b=>key a≤key b
def Xi(k:Int)(l:List α):List α:=l.filter fun a=>key a==k
structure Stable(l r:List α):Prop where
 rising:Rising key r
 keys:∀k,Xi key k r=Xi key k l
 len:r.length=l.length
theorem Xu(k:Int)(a b:List α):Xi key k (a++b)=Xi key k a++Xi key k b:=List.filter_append ..
theorem Xv{k:Int}{l:List α}{a:α}:a∈Xi key k l↔a∈l∧key a=k:=by
 unfold Xi;rw[List.mem_filter,beq_iff_eq]
theorem ofKey_nil_of{k:Int}{l:List α}(h:∀a∈l,key a≠k):Xi key k l=[]:=by
 unfold Xi
 rw[List.filter_eq_nil_iff]
 intro a E
 rw[beq_iff_eq]
 exact h a E
theorem Stable.mem{l r:List α}(h:Stable key l r)(a:α):a∈r↔a∈l:=by
 constructor
 ·intro E
  have:a∈Xi key (key a) r:=(Xv key).2 ⟨E,rfl⟩
  rw[h.keys]at this
  exact((Xv key).1 this).1
 ·intro E
  have:a∈Xi key (key a) l:=(Xv key).2 ⟨E,rfl⟩
  rw[←h.keys]at this
  exact((Xv key).1 this).1
theorem Stable.refl{l:List α}(h:Rising key l):Stable key l l:=⟨h,fun _=>rfl,rfl⟩
theorem Stable.of_keys{a b c:List α}(h:∀k,Xi key k b=Xi key k a)(hl:b.length=a.length)(g:Stable key b c):Stable key a c:=⟨g.rising,fun k=>(g.keys k).trans (h k),g.len.trans hl⟩
theorem rising_unique:∀{r r':List α},Rising key r→Rising key r'→(∀k,Xi key k r=Xi key k r')→r=r'
 | [],r',_,_,h=>by
   cases r' with
   |nil=>rfl
   |cons b t=>
    have:=h (key b)
    have hb:b∈Xi key (key b) (b::t):=(Xv key).2 ⟨by simp,rfl⟩
    rw[←this]at hb
    cases hb
 |a::r,r',h1,h2,h=>by
  cases r' with
  |nil=>
   have:=h (key a)
   have ha:a∈Xi key (key a) (a::r):=(Xv key).2 ⟨by simp,rfl⟩
   rw[this]at ha
   cases ha
  |cons b t=>
   have h1':=qt.1 h1
   have h2':=qt.1 h2
   have kab:key a=key b:=by
    have ha:a∈Xi key (key a) (b::t):=by rw[←h];exact(Xv key).2 ⟨by simp,rfl⟩
    have hb:b∈Xi key (key b) (a::r):=by rw[h];exact(Xv key).2 ⟨by simp,rfl⟩
    have ha:=((Xv key).1 ha).1
    have hb:=((Xv key).1 hb).1
    have I:key b≤key a:=by
     rcases List.mem_cons.1 ha with rfl|ha
     ·exact Int.le_refl _
     ·exact h2'.1 a ha
    have O:key a≤key b:=by
     rcases List.mem_cons.1 hb with rfl|hb
     ·exact Int.le_refl _
     ·exact h1'.1 b hb
    omega
   have E:a=b∧Xi key (key a) r=Xi key (key a) t:=by
    have:=h (key a)
    unfold Xi at this
    rw[qi (by simp),qi (by simp[kab])]at this
    exact⟨(List.cons.inj this).1,(List.cons.inj this).2⟩
   obtain⟨rfl,_⟩:=E
   congr 1
   refine rising_unique h1'.2 h2'.2 fun k=>?_
   have:=h k
   unfold Xi at this ⊢
   by_cases hk:key a=k
   ·rw[qi (by simp[hk]),qi (by simp[hk])]at this
    exact(List.cons.inj this).2
   ·rw[List.filter_cons_of_neg (by simp[hk]),List.filter_cons_of_neg (by simp[hk])]at this
    exact this
theorem Stable.unique{l r r':List α}(h:Stable key l r)(h':Stable key l r'):r=r':=rising_unique key h.rising h'.rising fun k=>(h.keys k).trans (h'.keys k).symm
theorem Rising.app{a b:List α}(ha:Rising key a)(hb:Rising key b)(h:∀x∈a,∀y∈b,key x≤key y):Rising key (a++b):=List.pairwise_append.2 ⟨ha,hb,h⟩
theorem Rising.parts{a b:List α}(h:Rising key (a++b)):Rising key a∧Rising key b∧∀x∈a,∀y∈b,key x≤key y:=List.pairwise_append.1 h
theorem ofKey_swap{a b:List α}(h:∀x∈a,∀y∈b,key x≠key y)(k:Int):Xi key k (a++b)=Xi key k (b++a):=by
 rw[Xu,Xu]
 by_cases E:∃x∈a,key x=k
 ·obtain⟨x,hx,rfl⟩:=E
  have hb:Xi key (key x) b=[]:=ofKey_nil_of key fun y hy e=>h x hx y hy e.symm
  rw[hb,List.nil_append,List.append_nil]
 ·have E:Xi key k a=[]:=ofKey_nil_of key fun x hx e=>E ⟨x,hx,e⟩
  rw[E,List.nil_append,List.append_nil]
theorem Kl{y:α}{x1 x2:List α}(hx:Rising key (x1++x2))(h1:∀x∈x1,key x≤key y)(h2:∀x∈x2,key y<key x):Stable key (x1++x2++[y]) (x1++y::x2):=by
 obtain⟨a,b,c⟩:=Rising.parts key hx
 refine⟨Rising.app key a (qt.2 ⟨fun z hz=>Int.le_of_lt (h2 z hz),b⟩) fun z hz w hw=>?_,fun k=>?_,by simp<;>omega⟩
 ·rcases List.mem_cons.1 hw with rfl|hw
  ·exact h1 z hz
  ·exact c z hz w hw
 ·have:=ofKey_swap key (a:=x2) (b:=[y]) (fun z hz w hw e=>by simp only[List.mem_singleton]at hw;subst hw;have:=h2 z hz;omega) k
  rw[show x1++y::x2=x1++([y]++x2) by simp,List.append_assoc,Xu,←this,←Xu]
end
end Go.Proofs.YthohbneadomgdaaGreatDoor.Stab
namespace Go.Proofs.YthohbneadomgdaaGreatDoor
open Go.RowKit Abs
theorem setL_in:∀(a b c:List Value),b.length≤c.length→setL (a++c) a.length b=a++b++c.drop b.length
 | [],[],c,_=>by simp[setL]
 |a,x::b,[],h=>by simp at h
 |a,[],c,_=>by simp[setL]
 |a,x::b,y::c,h=>by
  have ih:=setL_in (a++[x]) b c (by simpa using h)
  rw[setL]
  have e:(a++y::c).set a.length x=(a++[x])++c:=by simp
  rw[e]
  simp only[qk,List.length_cons,List.length_nil]at ih
  rw[ih]
  simp
theorem split_at{α:Type}{xs:List α}{k:Nat}{x:α}(hx:xs[k]?=some x):∃P Q,xs=P++x::Q∧P.length=k:=by
 obtain⟨E,h2⟩:=List.getElem?_eq_some_iff.1 hx
 refine⟨xs.take k,xs.drop (k+1),?_,by rw[List.length_take];omega⟩
 rw[←h2,List.getElem_cons_drop,List.take_append_drop]
theorem set_mid{α:Type}(P Q:List α)(x y:α):(P++x::Q).set P.length y=P++y::Q:=by
 rw[List.set_append_right _ _ (qj _),Nat.sub_self,List.set_cons_zero]
theorem putIn_at{α:Type}{n:Nat}{f:α→List Value}{xs:List α}(hl:∀x∈xs,(f x).length=n){k:Nat}{x:α}(hx:xs[k]?=some x)(y:α)(hy:(f y).length=n)(ho:Jo (f y)=true)(m:Mem)(g s:Nat):
 Ji n m g (k*n) (f y) (some (.cells false s (xs.flatMap f)))=some (m.set g (some (.cells false s ((xs.set k y).flatMap f)))):=by
 obtain⟨P,Q,rfl,rfl⟩:=split_at hx
 rw[set_mid]
 have I:(P.flatMap f).length=P.length*n:=flatMap_len f n P fun x hx=>hl x (by simp[hx])
 have E:(f x).length=n:=hl x (by simp)
 unfold Ji
 simp only[List.flatMap_append,List.flatMap_cons]
 rw[if_pos ⟨hy,by simp only[qk];omega,ho⟩,←I]
 rw[setL_in _ _ _ (by simp only[qk];omega),hy,←E,List.drop_left,List.append_assoc]
theorem Abs.Sl.len{m:Mem}{v:Value}{xs:List Value}(h:Sl m v xs):∃a,v=.slice a xs.length xs.length:=by
 rcases h with⟨rfl,rfl⟩|⟨g,rfl,_⟩
 ·exact⟨none,rfl⟩
 ·exact⟨_,rfl⟩
theorem rfilled_at(s:List UInt8)(hs:s.length≤256)(m:Mem):Abs.Spec qc 64 [.string (str s)] m fun u M=>u=.string (str (Jg s))∧M=m:=by
 refine Abs.Spec.of_empty (by intro x hx;simp at hx;subst hx;rfl) rfl ?_ m
 have a8:JC (str s)=s.length:=rfl
 have nb:=Uo s (by omega)
 refine WM Tryz.func64 Tryz.results64 Tryz.ntmps64 fun _=>?_
 refine J0 (R0 ?_)
 refine J0 (R2 @nb @a8 ?_)
 have h0:Sl ((⟨[]⟩:Mem).push (.cells false 1 (J5 s))) (.slice (some ⟨(⟨[]⟩:Mem).size,0,none⟩) s.length s.length) (J5 (s++qd 0 0)):=by
  rw[List.replicate_zero,List.append_nil]
  exact Sl.block (by simp[J5]) (Mem.get_push_new _ _)
 refine J0 (J7 (Jr (fun j f m'=>∃(i:Nat)(v:Value),j=256-s.length-i∧f=[(3,v)]∧i≤256-s.length∧Sl m' v (J5 (s++qd i 0))∧Grows ⟨[]⟩ m'∧(∀g l c,v=.slice (some ⟨g,0,none⟩) l c→(⟨[]⟩:Mem).size≤g)) (256-s.length) ?_ ?_))
 ·refine JK [3] ?_
  exact⟨_,tR _,0,_,rfl,rfl,by omega,h0,(Grows.refl _).push _,fun g l c e=>by cases e;exact qj _⟩
 ·rintro j f m' ⟨i,v,rfl,rfl,hi,hv,aa,Z⟩
  have hl:(J5 (s++qd i 0)).length=s.length+i:=by simp[J5]
  obtain⟨a,I⟩:=hv.len
  rw[hl]at I
  subst I
  refine J0 (J0 (R0 ?_))
  refine CC (decide (((s.length+i:Nat):Int)<256)) (fun O=>J3 ?_) (fun O=>Jn ?_)
  ·have O:=of_decide_eq_true O
   obtain⟨s',m2,U,a6,a2,E⟩:=hv.app_u8 aa Z (.int .u8 0) (by rw[hl];omega)
   rw[show J5 (s++qd i 0)++[.int .u8 0]=J5 (s++qd (i+1) 0) by
    rw[qo,←List.append_assoc]
    simp[J5,JB]]at a6
   have nu:=new_u8 0
   refine S0 ?_
   refine J7 (R2 @nu @U ?_)
   refine JK [3] ?_
   exact⟨_,tR _,256-s.length-(i+1),⟨i+1,s',rfl,rfl,by omega,a6,a2,E⟩,by omega⟩
  ·have O:=of_decide_eq_false O
   obtain⟨g,Y,hg⟩:=hv.at (by rw[hl];omega)
   rw[hl]at Y
   cases Y
   have ac:s.length+i=256:=by omega
   have e2:Xw qc m'.get 172 9 (.slice (some ⟨g,0,none⟩) (s.length+i) (s.length+i))=some (.string (str (s++qd i 0))):=to_str hg (by simp)
   rw[show s++qd i 0=Jg s by unfold Jg;congr 2;omega]at e2
   refine S0 ?_
   refine J0 (R1 @e2 ?_)
   refine T0 ?_
   first|exact⟨_,tR _,rfl⟩|exact⟨_,tR _⟩|exact⟨_,tR _,rfl,rfl⟩
theorem zeroS_eq:Jg []=zeroS:=rfl
theorem zero_len:zeroS.length=256:=qh
theorem zeros_at(m:Mem):Abs.Spec qc 173 [.string (str zeroS)] m fun u M=>u=.bool true∧M=m:=by
 have E:JC (str zeroS)=256:=zero_len
 refine WM Tryz.func173 Tryz.results173 Tryz.ntmps173 fun _=>?_
 refine J0 (R0 ?_)
 refine J0 (J0 (R0 ?_))
 refine J7 (Jr (fun j f m'=>∃i:Nat,j=256-i∧f=[(0,.string (str zeroS)),(3,.int .i64 (i:Nat))]∧i≤256∧m'=m) 256 ?_ ?_)
 ·refine JK [0,3] ?_
  exact⟨_,tR _,0,rfl,rfl,by omega,rfl⟩
 ·rintro j f m' ⟨i,rfl,rfl,hi,O⟩
  replace O:=O.symm;subst O
  refine J0 (J0 (R1 @E ?_))
  refine CC (decide ((i:Int)<((256:Nat):Int))) (fun I=>J3 ?_) (fun I=>Jn ?_)
  ·have I:=of_decide_eq_true I
   have U:=index_str (str zeroS) (i:Nat) i rfl (by rw[str_size,zero_len];omega)
   have iz:(str zeroS).data.toList.getD i 0=0:=by
    show zeroS.getD i 0=0
    unfold zeroS
    rw[List.getD_eq_getElem?_getD,List.getElem?_replicate]
    split<;>rfl
   rw[iz]at U
   have Y:IntKind.i64.wrap ((i:Int)+1)=((i+1:Nat):Int):=by rw[Xn (by omega) (by omega)];omega
   have Z:((((0:UInt8).toNat:Nat):Int) !=0)=false:=rfl
   refine S0 ?_
   refine J0 (J7 (J0 (R2 @U @Z ?_)))
   refine CF (J3 ?_)
   refine S0 ?_
   refine R1 @Y ?_
   refine JK [0,3] ?_
   exact⟨_,tR _,256-(i+1),⟨i+1,rfl,rfl,by omega,rfl⟩,by omega⟩
  ·refine S0 ?_
   refine J0 (R0 ?_)
   refine T0 ?_
   first|exact⟨_,tR _,rfl⟩|exact⟨_,tR _⟩|exact⟨_,tR _,rfl,rfl⟩
theorem rcat_at(m:Mem):Abs.Spec qc 116 [.string (str zeroS)] m fun u M=>u=.tuple #[.agg noExt.cells.toArray,.int .i64 8]∧M=m:=by
 refine Abs.Spec.of_empty (by intro x hx;simp at hx;subst hx;rfl) rfl ?_ m
 have Z:Qa qc 85=some (.cells false (J6 qc 85) noExt.cells):=al_Ext
 generalize J6 qc 85=s1 at Z
 have I:Qj qc 85 []=some (.agg noExt.cells.toArray):=by kernel_rfl
 have U:∀x:Ext,Ju 8 0 (some (.cells false s1 x.cells))=some (.agg x.cells.toArray):=fun _=>rfl
 have a2:∀x:Ext,(Value.agg x.cells.toArray).cells.toList=x.cells:=fun _=>rfl
 have E:∀(M0:Mem)(b:Nat)(x y:Ext),Ji 8 M0 b 0 y.cells (some (.cells false s1 x.cells))=some (M0.set b (some (.cells false s1 y.cells))):=fun _ _ _ _=>rfl
 obtain⟨M1,O⟩:∃M1:Mem,M1=(⟨[]⟩:Mem).push (.cells false s1 noExt.cells):=⟨_,rfl⟩
 obtain⟨b2,Y⟩:∃b,b=(⟨[]⟩:Mem).size:=⟨_,rfl⟩
 have g2:M1.get b2=some (.cells false s1 noExt.cells):=by rw[O,Y,Mem.get_push_new]
 have g3:(M1.set b2 (some (.cells false s1 noExt.cells))).get b2=some (.cells false s1 noExt.cells):=Mem.get_set_same g2 _
 refine WM Tryz.func116 Tryz.results116 Tryz.ntmps116 fun _=>?_
 refine J0 (R1 @Z ?_)
 rw[←O,←Y]
 refine J0 (J0 (R0 ?_))
 refine K0 (zeros_at _) ?_
 refine CT (J0 (R4 @I @g2 @a2 @E ?_))
 refine T3 @Q4 @g3 @U ?_
 first|exact⟨_,tR _,rfl⟩|exact⟨_,tR _⟩|exact⟨_,tR _,rfl,rfl⟩
theorem rjou_at(m:Mem):Abs.Spec qc 118 [.string (str zeroS)] m fun u M=>u=.tuple #[.agg noExt.cells.toArray,.slice none 0 0,.int .i64 8]∧M=m:=by
 refine Abs.Spec.of_empty (by intro x hx;simp at hx;subst hx;rfl) rfl ?_ m
 have Y:Qa qc 85=some (.cells false (J6 qc 85) noExt.cells):=al_Ext
 generalize J6 qc 85=s1 at Y
 have a2:Qj qc 85 []=some (.agg noExt.cells.toArray):=by kernel_rfl
 have I:∀x:Ext,Ju 8 0 (some (.cells false s1 x.cells))=some (.agg x.cells.toArray):=fun _=>rfl
 have O:∀x:Ext,(Value.agg x.cells.toArray).cells.toList=x.cells:=fun _=>rfl
 have E:∀(M0:Mem)(b:Nat)(x y:Ext),Ji 8 M0 b 0 y.cells (some (.cells false s1 x.cells))=some (M0.set b (some (.cells false s1 y.cells))):=fun _ _ _ _=>rfl
 obtain⟨Z,a6⟩:∃Z:Mem,Z=(⟨[]⟩:Mem).push (.cells false s1 noExt.cells):=⟨_,rfl⟩
 obtain⟨b2,a8⟩:∃b,b=(⟨[]⟩:Mem).size:=⟨_,rfl⟩
 have g2:Z.get b2=some (.cells false s1 noExt.cells):=by rw[a6,a8,Mem.get_push_new]
 have l2:=Mem.get_lt g2
 obtain⟨M2,U⟩:∃M2,M2=(Z.push (.cells false s1 noExt.cells)).set Z.size (some (.cells false s1 noExt.cells)):=⟨_,rfl⟩
 have g5:M2.get Z.size=some (.cells false s1 noExt.cells):=by rw[U];exact Mem.get_set_same (Mem.get_push_new _ _) _
 have a7:M2.get b2=some (.cells false s1 noExt.cells):=by rw[U,Mem.get_set_ne (by omega),Mem.get_push_old l2];exact g2
 have g3:(M2.set b2 (some (.cells false s1 noExt.cells))).get b2=some (.cells false s1 noExt.cells):=Mem.get_set_same a7 _
 refine WM Tryz.func118 Tryz.results118 Tryz.ntmps118 fun _=>?_
 refine J0 (R1 @Y ?_)
 rw[←a6,←a8]
 refine J0 (R5 @Y @a2 @Mem.get_push_new @O @E ?_)
 rw[←U]
 refine J0 (J0 (R0 ?_))
 refine K0 (zeros_at _) ?_
 refine CT (J0 (R5 @g5 @I @a7 @O @E ?_))
 refine T3 @Q4 @g3 @I ?_
 first|exact⟨_,tR _,rfl⟩|exact⟨_,tR _⟩|exact⟨_,tR _,rfl,rfl⟩
def UD(s:List UInt8):Value:=.string (str s)
def Strs(M:Mem)(b n:Nat):Prop:=∃L:List (List UInt8),L.length=n∧M.get b=some (.cells false 1 (L.map UD))
def Flags(M:Mem)(b n:Nat):Prop:=∃F:List Bool,F.length=n∧M.get b=some (.cells false 1 (F.map Value.bool))
def Uu(b n:Nat):Value:=.slice (some ⟨b,0,none⟩) n n
structure RW(M:Mem)(e n bO bL bF:Nat):Prop where
 row:∃s,M.get e=some (.cells false s [Uu bO n,Uu bL n,Uu bF n,.int .i64 (-1),.bool false])
 old:Strs M bO n
 last:Strs M bL n
 fresh:Flags M bF n
theorem put_map{α:Type}(f:α→Value)(hf:∀x,Jo [f x]=true){L:List α}{i:Nat}(hi:i<L.length)(x:α)(M:Mem)(b s:Nat):Ji 1 M b i [f x] (some (.cells false s (L.map f)))=some (M.set b (some (.cells false s ((L.set i x).map f)))):=by
 have:=putIn_at (n:=1) (f:=fun a=>[f a]) (xs:=L) (k:=i) (fun _ _=>rfl) (qf hi) x rfl (hf x) M b s
 rw[Z2,Z2,Nat.mul_one]at this
 exact this
theorem cell_map{α:Type}{f:α→Value}{L:List α}{i:Nat}{x:α}(hx:L[i]?=some x)(ro:Bool)(s:Nat):cellIn i (some (.cells ro s (L.map f)))=some (f x):=by
 simp only[cellIn,List.getElem?_map,hx,Option.map_some]
section
variable {M : Mem} {e n bO bL bF : Nat}
theorem RW.strs(h:RW M e n bO bL bF)(hn:0<n){b:Nat}(hb:Strs M b n){L:List (List UInt8)}(hl:L.length=n):RW (M.set b (some (.cells false 1 (L.map UD)))) e n bO bL bF:=by
 have Z:∀c,Strs M c n→Strs (M.set b (some (.cells false 1 (L.map UD)))) c n:=fun c hc=>by
  by_cases q:b=c
  ·subst q
   obtain⟨_,_,I⟩:=hb
   exact⟨L,hl,Mem.get_set_same I _⟩
  ·obtain⟨L',h1,h2⟩:=hc
   exact⟨L',h1,by rw[Mem.get_set_ne q];exact h2⟩
 obtain⟨Y,O,E⟩:=hb
 obtain⟨x,r,rfl⟩:∃x r,Y=x::r:=by
  cases Y with
  |nil=>simp at O;omega
  |cons x r=>exact⟨x,r,rfl⟩
 refine⟨?_,Z _ h.old,Z _ h.last,?_⟩
 ·obtain⟨s,hs⟩:=h.row
  refine⟨s,?_⟩
  rw[Mem.get_set_ne (fun q=>by rw[q,hs]at E;cases E)]
  exact hs
 ·obtain⟨F,U,I⟩:=h.fresh
  refine⟨F,U,?_⟩
  rw[Mem.get_set_ne (fun q=>?_)]
  ·exact I
  ·rw[q,I]at E
   cases F with
   |nil=>simp at U;omega
   |cons y t=>simp[UD]at E
theorem RW.flags(h:RW M e n bO bL bF)(hn:0<n){F:List Bool}(hl:F.length=n):RW (M.set bF (some (.cells false 1 (F.map Value.bool)))) e n bO bL bF:=by
 obtain⟨Z,I,E⟩:=h.fresh
 obtain⟨x,r,rfl⟩:∃x r,Z=x::r:=by
  cases Z with
  |nil=>simp at I;omega
  |cons x r=>exact⟨x,r,rfl⟩
 have Y:∀c,Strs M c n→Strs (M.set bF (some (.cells false 1 (F.map Value.bool)))) c n:=fun c hc=>by
  obtain⟨O,U,h2⟩:=hc
  refine⟨O,U,?_⟩
  rw[Mem.get_set_ne (fun q=>?_)]
  ·exact h2
  ·rw[q,h2]at E
   cases O with
   |nil=>simp at U;omega
   |cons y t=>simp[UD]at E
 refine⟨?_,Y _ h.old,Y _ h.last,⟨F,hl,Mem.get_set_same E _⟩⟩
 obtain⟨s,hs⟩:=h.row
 refine⟨s,?_⟩
 rw[Mem.get_set_ne (fun q=>by rw[q,hs]at E;cases E)]
 exact hs
theorem RW.same{M':Mem}(h:RW M e n bO bL bF)(hs:∀b x,M.get b=some x→M'.get b=some x):RW M' e n bO bL bF:=by
 obtain⟨⟨s,O⟩,⟨L,h2,I⟩,⟨E,U,Y⟩,⟨F,h6,Z⟩⟩:=h
 exact⟨⟨s,hs _ _ O⟩,⟨L,h2,hs _ _ I⟩,⟨E,U,hs _ _ Y⟩,⟨F,h6,hs _ _ Z⟩⟩
def RB(M:Mem)(e n bO bL bF:Nat):Prop:=RW M e n bO bL bF∧M.get bL=some (.cells false 1 ((qd n zeroS).map UD))
theorem RB.same{M':Mem}(h:RB M e n bO bL bF)(hs:∀b x,M.get b=some x→M'.get b=some x):RB M' e n bO bL bF:=⟨h.1.same hs,hs _ _ h.2⟩
theorem rread_at(h:RB M e n bO bL bF)(hn:n≤1024)(i:Nat)(hi:i<n):Abs.Spec qc 115 [.pointer (some ⟨e,0,none⟩),.int .i64 (i:Nat)] M fun u M'=>u=.tuple #[.string (str zeroS),.int .i64 0]∧M'=M:=by
 obtain⟨⟨⟨s,E⟩,_,_,_⟩,Y⟩:=h
 have c0:cellIn 0 (some (.cells false s [Uu bO n,Uu bL n,Uu bF n,.int .i64 (-1),.bool false]))=some (.slice (some ⟨bO,0,none⟩) n n):=rfl
 have c1:cellIn 1 (some (.cells false s [Uu bO n,Uu bL n,Uu bF n,.int .i64 (-1),.bool false]))=some (.slice (some ⟨bL,0,none⟩) n n):=rfl
 have O:cellIn 4 (some (.cells false s [Uu bO n,Uu bL n,Uu bF n,.int .i64 (-1),.bool false]))=some (.bool false):=rfl
 have I:cellIn i (some (.cells false 1 ((qd n zeroS).map UD)))=some (.string (str zeroS)):=cell_map (by rw[List.getElem?_replicate,if_pos hi]) false 1
 have q1:decide ((i:Int)<0)=false:=decide_eq_false (by omega)
 have U:decide ((i:Int)≥(n:Int))=false:=decide_eq_false (by omega)
 have z0:(0:Int)≤(i:Int):=by omega
 have Z:(i:Int)<(n:Int):=by omega
 refine WM Tryz.func115 Tryz.results115 Tryz.ntmps115 fun _=>?_
 refine J0 (R0 ?_)
 refine J0 (J0 (R2 @E @O ?_))
 refine CF (J3 ?_)
 refine S0 ?_
 refine J0 (J0 (R4 @q1 @E @c0 @U ?_))
 refine CF (J3 ?_)
 refine S0 ?_
 refine J0 (R8 @E @c1 @z0 @Z @and_self @Y @qe @I ?_)
 refine T0 ?_
 first|exact⟨_,tR _,rfl⟩|exact⟨_,tR _⟩|exact⟨_,tR _,rfl,rfl⟩
theorem rburn_at(h:RW M e n bO bL bF):Abs.Spec qc 181 [.pointer (some ⟨e,0,none⟩)] M fun u M'=>u=.bool true∧M'=M:=by
 obtain⟨s,E⟩:=h.row
 have I:cellIn 3 (some (.cells false s [Uu bO n,Uu bL n,Uu bF n,.int .i64 (-1),.bool false]))=some (.int .i64 (-1)):=rfl
 have O:((-1:Int)==0)=false:=rfl
 have U:decide ((-1:Int)>0)=false:=rfl
 refine WM Tryz.func181 Tryz.results181 Tryz.ntmps181 fun _=>?_
 refine J0 (R0 ?_)
 refine J0 (J0 (R3 @E @I @O ?_))
 refine CF (J3 ?_)
 refine S0 ?_
 refine J0 (J0 (R3 @E @I @U ?_))
 refine CF (J3 ?_)
 refine S0 ?_
 refine J0 (R0 ?_)
 refine T0 ?_
 first|exact⟨_,tR _,rfl⟩|exact⟨_,tR _⟩|exact⟨_,tR _,rfl,rfl⟩
theorem rwrite_at(h:RW M e n bO bL bF)(hn0:0<n)(hn:n≤1024)(i:Nat)(hi:i<n)(t:List UInt8)(ht:t.length≤256):Abs.Spec qc 119 [.pointer (some ⟨e,0,none⟩),.int .i64 (i:Nat),.string (str t)] M fun u M'=>u=.int .i64 0∧RW M' e n bO bL bF∧Only [bO,bL,bF] M M'∧M'.size=M.size:=by
 obtain⟨s,hr⟩:=h.row
 obtain⟨L,a8,hL⟩:=h.last
 have c0:cellIn 0 (some (.cells false s [Uu bO n,Uu bL n,Uu bF n,.int .i64 (-1),.bool false]))=some (.slice (some ⟨bO,0,none⟩) n n):=rfl
 have c1:cellIn 1 (some (.cells false s [Uu bO n,Uu bL n,Uu bF n,.int .i64 (-1),.bool false]))=some (.slice (some ⟨bL,0,none⟩) n n):=rfl
 have c2:∀s,cellIn 2 (some (.cells false s [Uu bO n,Uu bL n,Uu bF n,.int .i64 (-1),.bool false]))=some (.slice (some ⟨bF,0,none⟩) n n):=fun _=>rfl
 have c4:cellIn 4 (some (.cells false s [Uu bO n,Uu bL n,Uu bF n,.int .i64 (-1),.bool false]))=some (.bool false):=rfl
 have ab:JC (str t)=t.length:=rfl
 have q1:decide ((i:Int)<0)=false:=decide_eq_false (by omega)
 have q2:decide ((i:Int)≥(n:Int))=false:=decide_eq_false (by omega)
 have q3:decide ((t.length:Int)>256)=false:=decide_eq_false (by omega)
 have z0:(0:Int)≤(i:Int):=by omega
 have z1:(i:Int)<(n:Int):=by omega
 have Y:Ji 1 M bL i [.string (str (Jg t))] (some (.cells false 1 (L.map UD)))=some (M.set bL (some (.cells false 1 ((L.set i (Jg t)).map UD)))):=put_map UD (fun _=>rfl) (by omega) (Jg t) M bL 1
 obtain⟨I,E⟩:∃I,I=M.set bL (some (.cells false 1 ((L.set i (Jg t)).map UD))):=⟨_,rfl⟩
 have h1:RW I e n bO bL bF:=by rw[E];exact h.strs hn0 h.last (by rw[qp];exact a8)
 obtain⟨s1,a6⟩:=h1.row
 obtain⟨F,aa,hF⟩:=h1.fresh
 have O:Ji 1 I bF i [.bool true] (some (.cells false 1 (F.map Value.bool)))=some (I.set bF (some (.cells false 1 ((F.set i true).map Value.bool)))):=put_map Value.bool (fun _=>rfl) (by omega) true I bF 1
 have Z:(Value.string (str (Jg t))).cells.toList=[.string (str (Jg t))]:=rfl
 have U:(Value.bool true).cells.toList=[.bool true]:=rfl
 refine WM Tryz.func119 Tryz.results119 Tryz.ntmps119 fun _=>?_
 refine J0 (R0 ?_)
 refine J0 (J0 (R2 @hr @c4 ?_))
 refine CF (J3 ?_)
 refine S0 ?_
 refine J0 (J0 (R4 @q1 @hr @c0 @q2 ?_))
 refine CF (J3 ?_)
 refine S0 ?_
 refine J0 (J0 (R2 @ab @q3 ?_))
 refine CF (J3 ?_)
 refine S0 ?_
 refine J0 (J0 (R0 ?_))
 refine K0 (rburn_at h) ?_
 refine CF (J3 ?_)
 refine S0 ?_
 refine J0 (D2 7 @hr @c1 ?_)
 refine⟨by kernel_rfl,_,rfilled_at t ht _,?_⟩
 refine⟨by decide,?_⟩
 refine S7 @z0 @z1 @and_self @qe @hL @Z @Y ?_
 rw[←E]
 refine J0 (R9 @a6 @c2 @z0 @z1 @and_self @qe @hF @U @O ?_)
 refine J0 (R0 ?_)
 refine T0 ?_
 exact⟨_,tR _,h1.flags hn0 (by rw[qp];exact aa),((by rw[E];exact Only.set (by simp) _):Only [bO,bL,bF] M I).trans (Only.set (by simp) _),by rw[Mem.size_set,E,Mem.size_set]⟩
theorem rsync_at(h:RW M e n bO bL bF)(hn0:0<n)(hn:n≤1024):Abs.Spec qc 183 [.pointer (some ⟨e,0,none⟩)] M fun u M'=>u=.int .i64 0∧RW M' e n bO bL bF∧Only [bO,bL,bF] M M'∧M'.size=M.size:=by
 obtain⟨s,hr⟩:=h.row
 have c0:∀s,cellIn 0 (some (.cells false s [Uu bO n,Uu bL n,Uu bF n,.int .i64 (-1),.bool false]))=some (.slice (some ⟨bO,0,none⟩) n n):=fun _=>rfl
 have c1:∀s,cellIn 1 (some (.cells false s [Uu bO n,Uu bL n,Uu bF n,.int .i64 (-1),.bool false]))=some (.slice (some ⟨bL,0,none⟩) n n):=fun _=>rfl
 have c2:∀s,cellIn 2 (some (.cells false s [Uu bO n,Uu bL n,Uu bF n,.int .i64 (-1),.bool false]))=some (.slice (some ⟨bF,0,none⟩) n n):=fun _=>rfl
 have c4:∀s,cellIn 4 (some (.cells false s [Uu bO n,Uu bL n,Uu bF n,.int .i64 (-1),.bool false]))=some (.bool false):=fun _=>rfl
 have Z:(Value.bool false).cells.toList=[.bool false]:=rfl
 refine WM Tryz.func183 Tryz.results183 Tryz.ntmps183 fun _=>?_
 refine J0 (R0 ?_)
 refine J0 (J0 (R2 @hr @c4 ?_))
 refine K0 (rburn_at h) ?_
 refine CF (J3 ?_)
 refine S0 ?_
 refine J0 (J0 (R0 ?_))
 refine J7 (Jr (fun j f M'=>∃i:Nat,j=n-i∧f=[(0,.pointer (some ⟨e,0,none⟩)),(3,.int .i64 (i:Nat))]∧i≤n∧RW M' e n bO bL bF∧Only [bO,bL,bF] M M'∧M'.size=M.size) n ?_ ?_)
 ·refine JK [0,3] ?_
  exact⟨_,tR _,0,rfl,rfl,by omega,h,Only.refl _ _,rfl⟩
 ·rintro j f M' ⟨i,rfl,rfl,hi,E,ho,aa⟩
  obtain⟨s1,a8⟩:=E.row
  refine J0 (J0 (R2 @a8 @c0 ?_))
  refine CC (decide ((i:Int)<(n:Int))) (fun hq=>J3 ?_) (fun hq=>Jn ?_)
  ·have hq:=of_decide_eq_true hq
   have z0:(0:Int)≤(i:Int):=by omega
   have w1:IntKind.i64.wrap ((i:Int)+1)=((i+1:Nat):Int):=by rw[Xn (by omega) (by omega)];omega
   obtain⟨L,ap,hL⟩:=E.last
   obtain⟨O,ab,hO⟩:=E.old
   obtain⟨x,hx⟩:∃x,L[i]?=some x:=⟨_,qf (by omega)⟩
   have cx:cellIn i (some (.cells false 1 (L.map UD)))=some (.string (str x)):=cell_map hx false 1
   have a2:Ji 1 M' bO i [.string (str x)] (some (.cells false 1 (O.map UD)))=some (M'.set bO (some (.cells false 1 ((O.set i x).map UD)))):=put_map UD (fun _=>rfl) (by omega) x M' bO 1
   obtain⟨U,I⟩:∃U,U=M'.set bO (some (.cells false 1 ((O.set i x).map UD))):=⟨_,rfl⟩
   have h1:RW U e n bO bL bF:=by rw[I];exact E.strs hn0 E.old (by rw[qp];exact ab)
   obtain⟨s2,ad⟩:=h1.row
   obtain⟨F,ae,hF⟩:=h1.fresh
   have Y:Ji 1 U bF i [.bool false] (some (.cells false 1 (F.map Value.bool)))=some (U.set bF (some (.cells false 1 ((F.set i false).map Value.bool)))):=put_map Value.bool (fun _=>rfl) (by omega) false U bF 1
   have a6:(Value.string (str x)).cells.toList=[.string (str x)]:=rfl
   refine S0 ?_
   refine J0 (J7 (J0 (QG hmix 12 (by kernel_rfl) (by kernel_rfl) ?_)))
   simp only[zZ,reduceIte,yQ,yW,yX,yZ,yJ,yK,yV,zDk,Jc,Jb,J9,J8,Xx,a8,c0,c1,z0,hq,and_self,hL,hO,qe,cx,a6,a2]
   rw[←I]
   refine R9 @ad @c2 @z0 @hq @and_self @qe @hF @Z @Y ?_
   refine R1 @w1 ?_
   refine JK [0,3] ?_
   exact⟨_,tR _,n-(i+1),⟨i+1,rfl,rfl,by omega,h1.flags hn0 (by rw[qp];exact ae),(ho.trans ((by rw[I];exact Only.set (by simp) _):Only [bO,bL,bF] M' U)).trans (Only.set (by simp) _),by rw[Mem.size_set,I,Mem.size_set];exact aa⟩,by omega⟩
  ·refine S0 ?_
   refine J0 (R0 ?_)
   refine T0 ?_
   exact⟨_,tR _,E,ho,aa⟩
theorem rlast_at(h:RB M e n bO bL bF)(hn0:0<n)(hn:n≤1024):Abs.Spec qc 182 [.pointer (some ⟨e,0,none⟩),.int .i64 0] M fun u M'=>u=.tuple #[.int .i64 0,.int .i64 0]∧M'=M:=by
 have E:((0:Int) !=0)=false:=rfl
 refine WM Tryz.func182 Tryz.results182 Tryz.ntmps182 fun _=>?_
 refine J0 (R0 ?_)
 refine J0 (R0 ?_)
 refine K0 (rread_at h hn 0 hn0) ?_
 refine J0 (J0 (R1 @E ?_))
 refine CF (J3 ?_)
 refine S0 ?_
 refine J0 (J0 (R0 ?_))
 refine K0 (zeros_at _) ?_
 refine CT (J0 (R0 ?_))
 refine T0 ?_
 first|exact⟨_,tR _,rfl⟩|exact⟨_,tR _⟩|exact⟨_,tR _,rfl,rfl⟩
theorem rnext_at(h:RB M e n bO bL bF)(hn0:0<n)(hn:n≤1024):Abs.Spec qc 120 [.pointer (some ⟨e,0,none⟩),.int .i64 0] M fun u M'=>u=.tuple #[.int .i64 1,.int .i64 0]∧RW M' e n bO bL bF∧Only [bO,bL,bF] M M'∧M'.size=M.size:=by
 have O:((0:Int) !=0)=false:=rfl
 have q1:((0:Int)==4294967295)=false:=rfl
 have Z:IntKind.i64.wrap (0+1)=1:=by decide
 have E:(⟨#[83,76,69,49]⟩:ByteArray)=str [83,76,69,49]:=rfl
 have Y:Abs.Spec qc 165 [.int .i64 1,.int .i64 4] M fun u M'=>u=.string (str (Sha.fixed 1 4))∧M'=M:=Abs.Spec.of_flat (by simp[flat]) rfl fun w=>rfixed_i 1 4 (by decide) (by decide) (by decide) (by decide) w
 refine WM Tryz.func120 Tryz.results120 Tryz.ntmps120 fun _=>?_
 refine J0 (R0 ?_)
 refine J0 (R0 ?_)
 refine K0 (rlast_at h hn0 hn) ?_
 refine J0 (J0 (R1 @O ?_))
 refine CF (J3 ?_)
 refine S0 ?_
 refine J0 (J0 (R1 @q1 ?_))
 refine CF (J3 ?_)
 refine S0 ?_
 refine J0 (R1 @Z ?_)
 refine K2 @E @ZE (Y) ?_
 refine⟨by show 4+(Sha.fixed 1 4).length≤_;rw[Sha.fixed_length];decide,?_⟩
 refine⟨by kernel_rfl,_,rwrite_at h.1 hn0 hn 0 hn0 (83::76::69::49::Sha.fixed 1 4) (by show(Sha.fixed 1 4).length+4≤256;rw[Sha.fixed_length];decide),?_⟩
 rintro _ M1 ⟨rfl,h1,I,a7⟩
 refine S0 ?_
 refine J0 (J0 (R1 @O ?_))
 refine CF (J3 ?_)
 refine S0 ?_
 refine J0 (R0 ?_)
 refine⟨by kernel_rfl,_,rsync_at h1 hn0 hn,?_⟩
 rintro _ M2 ⟨rfl,h2,U,hs2⟩
 refine S0 ?_
 refine J0 (J0 (R1 @O ?_))
 refine CF (J3 ?_)
 refine S0 ?_
 refine J0 (R1 @Z ?_)
 refine T0 ?_
 exact⟨_,tR _,h2,I.trans U,by omega⟩
end
def encF(b:Bool):List Value:=[.bool b]
abbrev FlagsOwn(k:Nat)(M:Mem)(V:Value)(L:List Bool):Prop:=OwnL encF 1 k M V L
theorem new_flag1(b:Bool):JF qc 124 1 [(0,.bool b)]=some (.cells false 1 (encF b)):=by kernel_rfl
theorem flapp{k:Nat}{M:Mem}{V:Value}{L:List Bool}(h:FlagsOwn k M V L)(hk:k≤M.size)(hl:L.length≤1000000)(x:Bool):
 ∃M' V',JT qc (M.push (.cells false 1 (encF x))) 124 124 V (.slice (some ⟨M.size,0,none⟩) 1 1)=some (V',M')∧QK V'=some (M.size+1)∧FlagsOwn k M' V' (L++[x])∧
  M'.size=M.size+2∧(∀b y,QK V≠some b→M.get b=some y→M'.get b=some y):=
 oapp Tryz.underlying124 inf_Bool (show Tryz.t4.zero=some (.bool false)from rfl) sz_Bool rfl Tryz.underlying124 (fun _=>rfl) (show Tryz.t4.bytes≤1000 by decide) h hk hl x 1
theorem OwnL.set_low{α:Type}{enc:α→List Value}{N k:Nat}{M:Mem}{V:Value}{L:List α}(h:OwnL enc N k M V L){e:Nat}(he:e<k)(o:Option Blk):OwnL enc N k (M.set e o) V L:=
 h.same fun b x hb hx=>by rw[Mem.get_set_ne (by have:=(h.live hb).1;omega)];exact hx
theorem rep_succ{α:Type}(a:α)(i:Nat):qd i a++[a]=qd (i+1) a:=(qo ..).symm
theorem rnew_spec(n:Nat)(h1:1≤n)(h2:n≤1024)(M:Mem):Abs.Spec qc 25 [.int .i64 (n:Nat)] M fun u M'=>∃e bO bL bF,u=.tuple #[.pointer (some ⟨e,0,none⟩),.int .i64 0]∧RB M' e n bO bL bF∧M.size≤e∧M.size≤bO∧M.size≤bL∧M.size≤bF∧More M M':=by
 have q1:decide ((n:Int)<1)=false:=decide_eq_false (by omega)
 have q2:decide ((n:Int)>1024)=false:=decide_eq_false (by omega)
 have es:(⟨#[]⟩:ByteArray)=str []:=rfl
 have bx:QO qc 126 (.agg #[.slice none 0 0,.slice none 0 0,.slice none 0 0,.int .i64 (-1),.bool false])=some (.cells false (J6 qc 126) [.slice none 0 0,.slice none 0 0,.slice none 0 0,.int .i64 (-1),.bool false]):=bx_RDsk _ rfl
 have bd:Qj qc 126 [(3,.int .i64 (-1))]=some (.agg #[.slice none 0 0,.slice none 0 0,.slice none 0 0,.int .i64 (-1),.bool false]):=by kernel_rfl
 generalize J6 qc 126=s1 at bx
 obtain⟨e,he⟩:∃e,e=M.size:=⟨_,rfl⟩
 obtain⟨M1,ae⟩:∃M1,M1=M.push (.cells false s1 [.slice none 0 0,.slice none 0 0,.slice none 0 0,.int .i64 (-1),.bool false]):=⟨_,rfl⟩
 have g1:M1.get e=some (.cells false s1 [.slice none 0 0,.slice none 0 0,.slice none 0 0,.int .i64 (-1),.bool false]):=by rw[ae,he,Mem.get_push_new]
 have bq:M1.size=e+1:=by rw[ae,Mem.size_push,he]
 have c0:∀a b c:Value,cellIn 0 (some (.cells false s1 [a,b,c,.int .i64 (-1),.bool false]))=some a:=fun _ _ _=>rfl
 have c1:∀a b c:Value,cellIn 1 (some (.cells false s1 [a,b,c,.int .i64 (-1),.bool false]))=some b:=fun _ _ _=>rfl
 have c2:∀a b c:Value,cellIn 2 (some (.cells false s1 [a,b,c,.int .i64 (-1),.bool false]))=some c:=fun _ _ _=>rfl
 have one:∀{α:Type}{enc:α→List Value}{N k:Nat}{M:Mem}{V:Value}{L:List α},OwnL enc N k M V L→Jo [V]=true:=fun h=>by
  rcases h with⟨_,rfl⟩|⟨_,g,_,rfl,_⟩<;>rfl
 have ns:=Vf zeroS
 have nf:=new_flag1 false
 refine WM Tryz.func25 Tryz.results25 Tryz.ntmps25 fun _=>?_
 refine J0 (R0 ?_)
 refine J0 (J0 (R2 @q1 @q2 ?_))
 refine CF (J3 ?_)
 refine S0 ?_
 refine J0 (R2 @bd @bx ?_)
 rw[←ae,←he]
 refine J0 (J0 (R0 ?_))
 refine J7 (Jr (fun j f M'=>∃(i:Nat)(VO VL O:Value),j=n-i∧f=[(0,.int .i64 (n:Nat)),(4,.pointer (some ⟨e,0,none⟩)),(5,.int .i64 (i:Nat))]∧i≤n∧
  M'.get e=some (.cells false s1 [VO,VL,O,.int .i64 (-1),.bool false])∧QE (e+1) M' VO (qd i zeroS)∧QE (e+1) M' VL (qd i zeroS)∧FlagsOwn (e+1) M' O (qd i false)∧
  (∀b,QK VO=some b→QK VL≠some b)∧(∀b,QK VO=some b→QK O≠some b)∧(∀b,QK VL=some b→QK O≠some b)∧(∀b x,b<e→M.get b=some x→M'.get b=some x)∧e+1≤M'.size) n ?_ ?_)
 ·refine JK [0,4,5] ?_
  exact⟨M1,tR _,0,_,_,_,rfl,rfl,by omega,g1,OwnL.nil _ _,OwnL.nil _ _,OwnL.nil _ _,(fun b h=>by cases h),(fun b h=>by cases h),(fun b h=>by cases h),(fun b x hb hx=>by rw[ae,Mem.get_push_old (by omega)];exact hx),by omega⟩
 ·rintro j f M' ⟨i,VO,VL,O,rfl,rfl,hi,a7,oO,oL,oF,aS,aD,aU,aj,aN⟩
  refine J0 (J0 (R0 ?_))
  refine CC (decide ((i:Int)<(n:Int))) (fun hq=>J3 ?_) (fun hq=>Jn ?_)
  ·have hq:=of_decide_eq_true hq
   have w1:IntKind.i64.wrap ((i:Int)+1)=((i+1:Nat):Int):=by rw[Xn (by omega) (by omega)];omega
   have an:∀{α:Type}{enc:α→List Value}{N:Nat}{M:Mem}{V:Value}{L:List α},OwnL enc N (e+1) M V L→QK V≠some e:=fun h hb=>by have:=(h.live hb).1;omega
   obtain⟨M2,E,az,aL,ai,hs2,ah⟩:=strapp oO aN (by simp;omega) zeroS
   rw[rep_succ]at ai
   have r2:=ah e _ (an oO) a7
   have p2:Ji 1 M2 e 0 [E] (some (.cells false s1 [VO,VL,O,.int .i64 (-1),.bool false]))=some (M2.set e (some (.cells false s1 [E,VL,O,.int .i64 (-1),.bool false]))):=by
    show(if [E].length=1∧0+[E].length≤5∧Jo [E]=true then some (M2.set e (some (.cells false s1 (setL [VO,VL,O,.int .i64 (-1),.bool false] 0 [E]))))else none)=_
    rw[if_pos ⟨rfl,by show 0+1≤5;decide,one ai⟩];rfl
   obtain⟨M3,Y⟩:∃M3,M3=M2.set e (some (.cells false s1 [E,VL,O,.int .i64 (-1),.bool false])):=⟨_,rfl⟩
   have r3:M3.get e=some (.cells false s1 [E,VL,O,.int .i64 (-1),.bool false]):=by rw[Y];exact Mem.get_set_same r2 _
   have s3:M3.size=M'.size+2:=by rw[Y,Mem.size_set,hs2]
   have ay:QE (e+1) M3 E (qd (i+1) zeroS):=by rw[Y];exact ai.set_low (by omega) _
   have ak:QE (e+1) M3 VL (qd i zeroS):=by rw[Y];exact(oL.same fun b x hb hx=>ah b x (fun h=>aS b h hb) hx).set_low (by omega) _
   have aM:FlagsOwn (e+1) M3 O (qd i false):=by rw[Y];exact(oF.same fun b x hb hx=>ah b x (fun h=>aD b h hb) hx).set_low (by omega) _
   have h3:∀b x,b<e→M.get b=some x→M3.get b=some x:=fun b x hb hx=>by
    rw[Y,Mem.get_set_ne (by omega)]
    exact ah b x (fun h=>by have:=(oO.live h).1;omega) (aj b x hb hx)
   obtain⟨M4,I,aH,aT,a8,aE,ad⟩:=strapp ak (by omega) (by simp;omega) zeroS
   rw[rep_succ]at a8
   have r4:=ad e _ (an ak) r3
   have p4:Ji 1 M4 e 1 [I] (some (.cells false s1 [E,VL,O,.int .i64 (-1),.bool false]))=some (M4.set e (some (.cells false s1 [E,I,O,.int .i64 (-1),.bool false]))):=by
    show(if [I].length=1∧1+[I].length≤5∧Jo [I]=true then some (M4.set e (some (.cells false s1 (setL [E,VL,O,.int .i64 (-1),.bool false] 1 [I]))))else none)=_
    rw[if_pos ⟨rfl,by show 1+1≤5;decide,one a8⟩];rfl
   obtain⟨M5,Z⟩:∃M5,M5=M4.set e (some (.cells false s1 [E,I,O,.int .i64 (-1),.bool false])):=⟨_,rfl⟩
   have r5:M5.get e=some (.cells false s1 [E,I,O,.int .i64 (-1),.bool false]):=by rw[Z];exact Mem.get_set_same r4 _
   have s5:M5.size=M'.size+4:=by rw[Z,Mem.size_set,aE];omega
   have l3:∀b,QK E=some b→b=M'.size+1:=fun b hb=>by rw[aL]at hb;cases hb;rfl
   have lL:∀b,QK VL=some b→b<M'.size:=fun b hb=>(oL.live hb).2
   have lF:∀b,QK O=some b→b<M'.size:=fun b hb=>(oF.live hb).2
   have aC:QE (e+1) M5 E (qd (i+1) zeroS):=by
    rw[Z];exact(ay.same fun b x hb hx=>ad b x (fun h=>by have:=l3 b hb;have:=lL b h;omega) hx).set_low (by omega) _
   have aJ:QE (e+1) M5 I (qd (i+1) zeroS):=by rw[Z];exact a8.set_low (by omega) _
   have am:FlagsOwn (e+1) M5 O (qd i false):=by rw[Z];exact(aM.same fun b x hb hx=>ad b x (fun h=>aU b h hb) hx).set_low (by omega) _
   have h5:∀b x,b<e→M.get b=some x→M5.get b=some x:=fun b x hb hx=>by
    rw[Z,Mem.get_set_ne (by omega)]
    exact ad b x (fun h=>by have:=(ak.live h).1;omega) (h3 b x hb hx)
   obtain⟨M6,U,aO,aF,af,be,aa⟩:=flapp am (by omega) (by simp;omega) false
   rw[rep_succ]at af
   have r6:=aa e _ (an am) r5
   have p6:Ji 1 M6 e 2 [U] (some (.cells false s1 [E,I,O,.int .i64 (-1),.bool false]))=some (M6.set e (some (.cells false s1 [E,I,U,.int .i64 (-1),.bool false]))):=by
    show(if [U].length=1∧2+[U].length≤5∧Jo [U]=true then some (M6.set e (some (.cells false s1 (setL [E,I,O,.int .i64 (-1),.bool false] 2 [U]))))else none)=_
    rw[if_pos ⟨rfl,by show 2+1≤5;decide,one af⟩];rfl
   have l5:∀b,QK I=some b→b=M3.size+1:=fun b hb=>by rw[aT]at hb;cases hb;rfl
   have l7:∀b,QK U=some b→b=M5.size+1:=fun b hb=>by rw[aF]at hb;cases hb;rfl
   have ag:∀{α:Type}{enc:α→List Value}{N k:Nat}{M:Mem}{V:Value}{L:List α},OwnL enc N k M V L→V.cells.toList=[V]:=fun h=>by
    rcases h with⟨_,rfl⟩|⟨_,g,_,rfl,_⟩<;>rfl
   have a2:=ag ai
   have a4:=ag a8
   have a6:=ag af
   refine S0 ?_
   refine J0 (J7 (J0 (CW_draw2 hmix 7 (by kernel_rfl) ?_)))
   refine S3 @a7 @c0 @es ?_
   refine⟨by kernel_rfl,_,rfilled_at [] (by decide) _,?_⟩
   refine⟨by decide,?_⟩
   refine S6 @zeroS_eq @ns @az @r2 @a2 @p2 ?_
   rw[←Y]
   refine J0 (CW_draw2 hmix 7 (by kernel_rfl) ?_)
   refine S3 @r3 @c1 @es ?_
   refine⟨by kernel_rfl,_,rfilled_at [] (by decide) _,?_⟩
   refine⟨by decide,?_⟩
   refine S6 @zeroS_eq @ns @aH @r4 @a4 @p4 ?_
   rw[←Z]
   refine R7 @r5 @c2 @nf @aO @r6 @a6 @p6 ?_
   refine R1 @w1 ?_
   refine JK [0,4,5] ?_
   refine⟨_,tR _,n-(i+1),⟨i+1,E,I,U,rfl,rfl,by omega,Mem.get_set_same r6 _,?_,?_,af.set_low (by omega) _,?_,?_,?_,?_,by rw[Mem.size_set];omega⟩,by omega⟩
   ·exact(aC.same fun b x hb hx=>aa b x (fun h=>by have:=l3 b hb;have:=lF b h;omega) hx).set_low (by omega) _
   ·exact(aJ.same fun b x hb hx=>aa b x (fun h=>by have:=l5 b hb;have:=lF b h;omega) hx).set_low (by omega) _
   ·intro b hb h;have:=l3 b hb;have:=l5 b h;omega
   ·intro b hb h;have:=l3 b hb;have:=l7 b h;omega
   ·intro b hb h;have:=l5 b hb;have:=l7 b h;omega
   ·intro b x hb hx
    rw[Mem.get_set_ne (by omega)]
    exact aa b x (fun h=>by have:=(am.live h).1;omega) (h5 b x hb hx)
  ·have hq:=of_decide_eq_false hq
   have ax:i=n:=by omega
   subst ax
   have al:∀{α:Type}(a:α),qd i a≠ []:=fun a h=>by
    have:=congrArg List.length h
    simp at this;omega
   rcases oO with⟨h,_⟩|⟨_,bO,kO,rfl,gO⟩
   ·exact absurd h (al _)
   rcases oL with⟨h,_⟩|⟨_,bL,kL,rfl,gL⟩
   ·exact absurd h (al _)
   rcases oF with⟨h,_⟩|⟨_,bF,kF,rfl,gF⟩
   ·exact absurd h (al _)
   have aP:M'.get bO=some (.cells false 1 ((qd i zeroS).map UD)):=by rw[gO];congr 2;exact Z2 UD _
   have ao:M'.get bL=some (.cells false 1 ((qd i zeroS).map UD)):=by rw[gL];congr 2;exact Z2 UD _
   have aB:M'.get bF=some (.cells false 1 ((qd i false).map Value.bool)):=by rw[gF];congr 2;exact Z2 Value.bool _
   simp only[qh]at a7
   refine S0 ?_
   refine J0 (R0 ?_)
   refine T0 ?_
   exact⟨_,tR _,e,bO,bL,bF,rfl,⟨⟨⟨s1,a7⟩,⟨_,qh,aP⟩,⟨_,qh,ao⟩,⟨_,qh,aB⟩⟩,ao⟩,by omega,by omega,by omega,by omega,fun b x hb=>aj b x (by have:=Mem.get_lt hb;omega) hb,by omega⟩
theorem msum_at(x:Int)(v:Value)(xs:List ByteArray)(m:Mem)(hd:Rd m 1 v xs.length (xs.map .string))(hlen:xs.length≤maxLen)(hsz:(Jw xs).length≤140737488355200):
 Abs.Spec qc 148 [.int .i64 x,v] m fun u M=>u=.string (str (Sha.msum x (Jw xs)))∧M=m:=
 Spec.of_below rfl fun ι w ys hy hr=>by
  obtain⟨a',b',rfl,ha,hb⟩:=vrels_two hy
  cases ha
  exact msum_any x b' xs w (Rd.strs hr hd hb) hlen hsz
theorem msum32(l:List UInt8):Sha.msum 32 l=Sha.sum l:=by
 unfold Sha.msum
 rw[List.take_of_length_le]
 rw[Sha.sum_length]
 decide
theorem cut_at(n:Nat)(hn:n≤1152921504606846976)(m:Mem):Abs.Spec qc 149 [.int .i64 n] m fun u M=>u=.int .i64 (Sha.cut n:Nat)∧M=m:=
 Abs.Spec.of_flat (by simp[flat]) rfl fun w=>cut_any n hn w
theorem new_str2(a b:ByteArray):JF qc 25 2 [(0,.string a),(1,.string b)]=some (.cells false 1 [.string a,.string b]):=by kernel_rfl
theorem new_str3(a b c:ByteArray):JF qc 25 3 [(0,.string a),(1,.string b),(2,.string c)]=some (.cells false 1 [.string a,.string b,.string c]):=by kernel_rfl
theorem rd_new(m:Mem)(n:Nat)(cs:List Value)(k:Nat)(hk:cs.length=k*n)(hm:k≤maxLen):Rd (m.push (.cells false n cs)) n (.slice (some ⟨m.size,0,none⟩) k k) k cs:=
 ⟨_,_,rfl,hk,qj _,hm,(fun h=>by cases h),fun p hp=>⟨_,(Option.some.inj hp).symm,fun _=>⟨false,Mem.get_push_new _ _⟩⟩⟩
theorem leaf_at(s:List UInt8)(hs:s.length≤1000000)(m:Mem):Abs.Spec qc 100 [.int .i64 32,.string (str s)] m fun u M=>u=.string (str (Ub s))∧M=m:=by
 refine Abs.Spec.of_empty (by intro x hx;simp at hx;rcases hx with rfl|rfl<;>rfl) rfl ?_ m
 refine WM Tryz.func100 Tryz.results100 Tryz.ntmps100 fun _=>?_
 have E:Jw [str [0],str s]=0::s:=by simp[Jw,str]
 refine J0 (R0 ?_)
 refine J0 (R1 @new_str2 ?_)
 refine K0 (msum_at 32 _ [str [0],str s] _ (rd_new _ 1 _ 2 rfl (by decide)) (show 2≤maxLen by decide) (by rw[E];simp only[List.length_cons];omega)) ?_
 refine T0 ?_
 exact⟨_,tR _,by rw[E,msum32];rfl⟩
theorem node_at(a b:List UInt8)(ha:a.length≤1000000)(hb:b.length≤1000000)(m:Mem):Abs.Spec qc 150 [.int .i64 32,.string (str a),.string (str b)] m fun u M=>u=.string (str (Sha.sum (1::(a++b))))∧M=m:=by
 refine Abs.Spec.of_empty (by intro x hx;simp at hx;rcases hx with rfl|rfl|rfl<;>rfl) rfl ?_ m
 refine WM Tryz.func150 Tryz.results150 Tryz.ntmps150 fun _=>?_
 have E:Jw [str [1],str a,str b]=1::(a++b):=by simp[Jw,str]
 refine J0 (R0 ?_)
 refine J0 (R1 @new_str3 ?_)
 refine K0 (msum_at 32 _ [str [1],str a,str b] _ (rd_new _ 1 _ 3 rfl (by decide)) (show 3≤maxLen by decide) (by rw[E];simp only[List.length_cons,qk];omega)) ?_
 refine T0 ?_
 exact⟨_,tR _,by rw[E,msum32]⟩
def StrsRd(M:Mem)(v:Value)(L:List (List UInt8)):Prop:=
 ∃a c,v=.slice a L.length c∧L.length≤c∧(L=[]→v=.slice none 0 0∨a≠none)∧∀(i:Nat) x,L[i]?=some x→∃b o ro cs,a=some ⟨b,o,none⟩∧M.get b=some (.cells ro 1 cs)∧cs[o+i]?=some (.string (str x))
theorem StrsRd.same{M M':Mem}{v:Value}{L:List (List UInt8)}(h:StrsRd M v L)(hs:∀b x,M.get b=some x→M'.get b=some x):StrsRd M' v L:=by
 obtain⟨a,c,I,h2,E,O⟩:=h
 refine⟨a,c,I,h2,E,fun i x hx=>?_⟩
 obtain⟨b,o,ro,cs,Y,U,Z⟩:=O i x hx
 exact⟨b,o,ro,cs,Y,hs _ _ U,Z⟩
theorem OwnL.strs{k:Nat}{M:Mem}{V:Value}{L:List (List UInt8)}(h:QE k M V L):StrsRd M V L:=by
 rcases h with⟨rfl,rfl⟩|⟨E,g,O,rfl,I⟩
 ·exact⟨none,0,rfl,by simp,fun _=>.inl rfl,fun i x hx=>by simp at hx⟩
 ·refine⟨_,_,rfl,qj _,fun e=>absurd e E,fun i x hx=>⟨g,0,false,_,rfl,I,?_⟩⟩
  rw[Nat.zero_add]
  rw[show L.flatMap encS=L.map (fun s=>Value.string (str s))from Z2 (fun s=>Value.string (str s)) L,List.getElem?_map,hx]
  rfl
theorem ss_from{get:Nat→Option Blk}{b o len cap:Nat}{ro:Bool}{cs:List Value}(hb:get b=some (.cells ro 1 cs))(l:Nat)(h1:l≤len):
 Q1 qc get 25 (.slice (some ⟨b,o,none⟩) len cap) (some (.int .i64 (l:Nat))) none=some (.slice (some ⟨b,o+l,none⟩) (len-l) (cap-l)):=by
 have hs:Tryz.t9.size=1:=rfl
 have hc:(0:Int)≤(l:Int)∧(l:Int)≤(len:Int):=by omega
 unfold Q1 X9
 simp only[qm,Zx,hs,hb,if_pos hc,if_true,Nat.mul_one,qe]
theorem ss_upto{get:Nat→Option Blk}{b o len cap:Nat}{ro:Bool}{cs:List Value}(hb:get b=some (.cells ro 1 cs))(h:Nat)(h1:h≤cap):
 Q1 qc get 25 (.slice (some ⟨b,o,none⟩) len cap) none (some (.int .i64 (h:Nat)))=some (.slice (some ⟨b,o,none⟩) h cap):=by
 have hs:Tryz.t9.size=1:=rfl
 have hc:(0:Int)≤(h:Int)∧(h:Int)≤(cap:Int):=by omega
 unfold Q1 X9
 simp only[qm,Zx,hs,hb,if_pos hc,if_true,Nat.mul_one,Nat.add_zero,Nat.zero_mul,qe,Nat.sub_zero]
theorem rootL_cut{L:List (List UInt8)}(h:2≤L.length):Xb L=Sha.sum (1::(Xb (L.take (Sha.cut L.length))++Xb (L.drop (Sha.cut L.length)))):=by
 match L,h with
 |a::b::r,_=>
  have E:=Sha.cut_lt (r.length+2) (by omega)
  have h2:=Sha.cut_pos (r.length+2)
  rw[Xb,Nat.min_eq_left (by omega),Nat.max_eq_left h2]
  rfl
theorem rootL_le{L:List (List UInt8)}(h:∀x∈L,x.length≤1000000):(Xb L).length≤1000000:=by
 match L,h with
 | [],_=>rw[Xb,Sha.sum_length];decide
 | [a],h=>rw[Xb];exact h a (by simp)
 |a::b::r,_=>rw[Xb,Sha.sum_length];decide
theorem mroot_spec:∀(n:Nat)(L:List (List UInt8)),L.length≤n→n≤1000000→(∀x∈L,x.length≤1000000)→∀(M:Mem)(v:Value),StrsRd M v L→
 Abs.Spec qc 101 [.int .i64 32,v] M fun u M'=>u=.string (str (Xb L))∧M'=M:=by
 intro n
 induction n with
 |zero=>
  intro L hn _ _ M v h
  obtain rfl:L=[]:=List.eq_nil_of_length_eq_zero (by omega)
  obtain⟨a,c,rfl,_,a8,_⟩:=h
  have hj:Jw []=[]:=rfl
  have Z:(((0:Nat):Int)==0)=true:=rfl
  refine WM Tryz.func101 Tryz.results101 Tryz.ntmps101 fun _=>?_
  refine J0 (R0 ?_)
  refine J0 (J0 (R0 ?_))
  refine J7 (J0 (R2 @List.length_nil.{0} @Z ?_))
  refine CT (J0 (R0 ?_))
  refine K0 (msum_at 32 (.slice none 0 0) [] M ⟨none,0,rfl,rfl,qj _,Nat.zero_le _,fun _=>rfl,fun p hp=>by cases hp⟩ (Nat.zero_le _) (by rw[hj];simp)) ?_
  refine T0 ?_
  exact⟨_,tR _,by rw[hj,msum32,Xb],rfl⟩
 |succ n ih=>
  intro L hn hb I M v h
  by_cases hle:L.length≤n
  ·exact ih L hle (by omega) I M v h
  have hL:L.length=n+1:=by omega
  obtain⟨a,c,rfl,ao,_,O⟩:=h
  have Z:(((L.length:Nat):Int)==0)=false:=by rw[hL];simp;omega
  by_cases h1:n=0
  ·subst h1
   obtain⟨x,rfl⟩:∃x,L=[x]:=List.length_eq_one_iff.1 hL
   obtain⟨b,o,ro,cs,rfl,U,a6⟩:=O 0 x rfl
   have q2:((([x].length:Nat):Int)==1)=true:=rfl
   have c0:cellIn (o+0) (some (.cells ro 1 cs))=some (.string (str x)):=a6
   have z0:(0:Int)≤0:=by omega
   have z1:(0:Int)<((1:Nat):Int):=by omega
   refine WM Tryz.func101 Tryz.results101 Tryz.ntmps101 fun _=>?_
   refine J0 (R0 ?_)
   refine J0 (J0 (R0 ?_))
   refine J7 (J0 (R1 @Z ?_))
   refine CF (J0 (R1 @q2 ?_))
   refine CT (J0 (R6 @List.length_singleton.{0} @z0 @z1 @and_self @U @c0 ?_))
   refine T0 ?_
   exact⟨_,tR _,by rw[Xb],rfl⟩
  ·have h2:2≤L.length:=by omega
   have cl:=Sha.cut_lt L.length h2
   have cp:=Sha.cut_pos L.length
   have hr:=rootL_cut h2
   obtain⟨E,Y⟩:∃E,E=Sha.cut L.length:=⟨_,rfl⟩
   obtain⟨x0,a7⟩:∃x,L[0]?=some x:=⟨_,qf (by omega)⟩
   obtain⟨b,o,ro,cs,rfl,U,_⟩:=O 0 x0 a7
   have rd:∀(i:Nat) x,L[i]?=some x→cs[o+i]?=some (.string (str x)):=fun i x hi=>by
    obtain⟨b',o',ax,ar,e1,e2,e3⟩:=O i x hi
    cases e1
    rw[U]at e2;cases e2
    exact e3
   rw[←Y]at cl cp hr
   have q2:(((L.length:Nat):Int)==1)=false:=by simp;omega
   have cu:=cut_at L.length (by omega) M
   rw[←Y]at cu
   have tl:(L.take E).length=E:=by rw[List.length_take];omega
   have dl:(L.drop E).length=L.length-E:=by rw[List.length_drop]
   have r1:=ih (L.take E) (by omega) (by omega) (fun x hm=>I x (List.mem_of_mem_take hm)) M (.slice (some ⟨b,o,none⟩) E c) ⟨_,_,by rw[tl],by omega,fun e=>.inr (by simp),fun i x hi=>by
    rw[List.getElem?_take]at hi
    split at hi
    ·exact⟨b,o,ro,cs,rfl,U,rd i x hi⟩
    ·cases hi⟩
   have r2:=ih (L.drop E) (by omega) (by omega) (fun x hm=>I x (List.mem_of_mem_drop hm)) M (.slice (some ⟨b,o+E,none⟩) (L.length-E) (c-E)) ⟨_,_,by rw[dl],by omega,fun e=>.inr (by simp),fun i x hi=>by
    rw[List.getElem?_drop]at hi
    exact⟨b,o+E,ro,cs,rfl,U,by rw[Nat.add_assoc];exact rd _ x hi⟩⟩
   have s1:=ss_upto (get:=M.get) (o:=o) (len:=L.length) (cap:=c) U E (by omega)
   have s2:=ss_from (get:=M.get) (o:=o) (len:=L.length) (cap:=c) U E (by omega)
   have nd:=node_at (Xb (L.take E)) (Xb (L.drop E)) (rootL_le fun x hm=>I x (List.mem_of_mem_take hm)) (rootL_le fun x hm=>I x (List.mem_of_mem_drop hm)) M
   refine WM Tryz.func101 Tryz.results101 Tryz.ntmps101 fun _=>?_
   refine J0 (R0 ?_)
   refine J0 (J0 (R0 ?_))
   refine J7 (J0 (R1 @Z ?_))
   refine CF (J0 (R1 @q2 ?_))
   refine CF (J3 ?_)
   refine S0 ?_
   refine J0 (R0 ?_)
   refine K0 (cu) ?_
   refine J0 (QG hmix 11 (by kernel_rfl) (by kernel_rfl) ?_)
   simp only[zZ,reduceIte,yQ,yW,yX,yZ,yJ,yK,yV,zDk,Jc,Jb,J9,J8,Xx,s1]
   refine⟨by kernel_rfl,_,r1,?_⟩
   refine⟨by decide,?_⟩
   refine S1 @s2 ?_
   refine⟨by kernel_rfl,_,r2,?_⟩
   refine⟨by decide,?_⟩
   refine S0 ?_
   refine K0 (nd) ?_
   refine T0 ?_
   exact⟨_,tR _,by rw[hr],rfl⟩
def StepS(M:Mem)(x:List UInt8)(p p':List (Option Blk)×Value):Prop:=
 JT qc ((M.app p.1).push (.cells false 1 (encS x))) 25 25 p.2 (.slice (some ⟨(M.app p.1).size,0,none⟩) 1 1)=some (p'.2,M.app p'.1)
def InvS(M:Mem)(es:List (List UInt8))(i:Nat)(p:List (Option Blk)×Value):Prop:=p.1.all ZK=true∧QE M.size (M.app p.1) p.2 (es.take i)
theorem chainS(M:Mem)(es:List (List UInt8))(hl:es.length≤100000):∀n,n≤es.length→∃sq:Nat→List (Option Blk)×Value,sq 0=([],.slice none 0 0)∧(∀i,i≤n→InvS M es i (sq i))∧∀(i:Nat) x,i<n→es[i]?=some x→StepS M x (sq i) (sq (i+1)):=by
 intro n
 induction n with
 |zero=>
  intro _
  refine⟨fun _=>([],.slice none 0 0),rfl,fun i hi=>?_,fun i o hi=>by omega⟩
  obtain rfl:i=0:=by omega
  exact⟨rfl,OwnL.nil _ _⟩
 |succ n ih=>
  intro hn
  obtain⟨sq,h0,Z,h2⟩:=ih (by omega)
  obtain⟨x,Y⟩:∃o,es[n]?=some o:=⟨_,qf (by omega)⟩
  have U:es.take (n+1)=es.take n++[x]:=by rw[List.take_add_one,Y];rfl
  obtain⟨E,O,I⟩:∃E,InvS M es (n+1) E∧StepS M x (sq n) E:=by
   obtain⟨i1,i2⟩:=Z n (qj _)
   obtain⟨N1,V',a1,a2,a3,_⟩:=oappx qm Zx Str_zero sz_Str rfl qm (fun _=>rfl) Str_bytes (M0:=M) rfl i1 i2 (qj _) (by rw[UX];omega) (by rw[List.length_take];omega) x 1
   exact⟨(N1,V'),⟨a2,by rw[U];exact a3⟩,a1⟩
  refine⟨fun j=>if j=n+1 then E else sq j,by simp[h0],fun i hi=>?_,fun i o' hi ho'=>?_⟩
  ·by_cases e:i=n+1
   ·subst e;simpa using O
   ·simp only[e,if_false];exact Z i (by omega)
  ·by_cases e:i=n
   ·subst e
    rw[Y]at ho';cases ho'
    simpa using I
   ·have e1:¬i=n+1:=by omega
    have e2:¬i+1=n+1:=by omega
    simp only[e1,e2,if_false]
    exact h2 i o' (by omega) ho'
theorem aroot_exact(L:List (List UInt8))(hl:L.length≤1000)(hxl:∀x∈L,x.length≤1000000)(M:Mem)(v:Value)(h:StrsRd M v L):
 ∃N,Abs.Spec qc 53 [v] M (fun u M'=>u=.string (str (UG L))∧M'=M.app N)∧N.all ZK=true:=by
 obtain⟨a,c,rfl,ai,ac,a7⟩:=h
 obtain⟨E,Z,a6,a8⟩:=chainS M (L.map Ub) (by rw[qq];omega) L.length (by rw[qq];omega)
 have O:=a6 L.length (qj _)
 refine⟨(E L.length).1,?_,O.1⟩
 refine WM Tryz.func53 Tryz.results53 Tryz.ntmps53 fun _=>?_
 have eM:M=M.app (E 0).1:=by rw[Z];simp[Mem.app]
 have eV:(Value.slice none 0 0)=(E 0).2:=by rw[Z]
 have Y:∀M':Mem,M'=M.app (E L.length).1→Abs.Spec qc 101 [.int .i64 32,(E L.length).2] M' fun u M''=>u=.string (str (Xb (L.map Ub)))∧M''=M':=fun M' e=>by
  have I:=O.2
  rw[List.take_of_length_le (by rw[qq];omega)]at I
  refine mroot_spec 1000 (L.map Ub) (by rw[qq];exact hl) (by decide) (fun y hy=>by
   obtain⟨z,_,rfl⟩:=List.mem_map.1 hy
   show(Sha.sum _).length≤_
   rw[Sha.sum_length];decide) M' _ ?_
  rw[e];exact I.strs
 refine J0 (R0 ?_)
 refine J0 (R0 ?_)
 rw[eV]
 refine J0 (J0 (R0 ?_))
 refine J7 (Jr (fun j f M'=>∃(i:Nat),j=L.length-i∧f=[(3,(E i).2),(6,.slice a L.length c),(7,.int .i64 (L.length:Nat)),(8,.int .i64 (i:Nat))]∧i≤L.length∧M'=M.app (E i).1) L.length ?_ ?_)
 ·refine JK [3,6,7,8] ?_
  exact⟨M,tR _,0,rfl,rfl,by omega,eM⟩
 ·rintro j f M' ⟨i,rfl,rfl,hi,rfl⟩
  refine J0 (R0 ?_)
  refine J0 (CC (decide ((i:Int)<(L.length:Int))) (fun hq=>J3 ?_) (fun hq=>Jn ?_))
  ·have a2:=of_decide_eq_true hq
   obtain⟨x,U⟩:∃x,L[i]?=some x:=⟨_,qf (by omega)⟩
   obtain⟨b,o,ro,cs,rfl,hg,aa⟩:=a7 i x U
   have ab:=Qq M (E i).1 _ _ hg
   have c0:cellIn (o+i) (some (.cells ro 1 cs))=some (.string (str x)):=aa
   have z0:(0:Int)≤(i:Int):=by omega
   have w9:IntKind.i64.wrap ((i:Int)+1)=((i+1:Nat):Int):=by rw[Xn (by omega) (by omega)];omega
   have lf:=leaf_at x (hxl x (List.mem_of_getElem? U)) (M.app (E i).1)
   have nw:=Vf (Ub x)
   have st:=a8 i (Ub x) (by omega) (by rw[List.getElem?_map,U];rfl)
   unfold StepS at st
   refine S0 ?_
   refine J0 (J7 (J0 (R6 @z0 @a2 @and_self @ab @qe @c0 ?_)))
   refine R0 ?_
   refine K2 @nw @st (lf) ?_
   refine R1 @w9 ?_
   refine JK [3,6,7,8] ?_
   exact⟨_,tR _,L.length-(i+1),⟨i+1,rfl,rfl,by omega,rfl⟩,by omega⟩
  ·have a2:=of_decide_eq_false hq
   obtain rfl:i=L.length:=by omega
   have mr:=Y _ rfl
   refine S0 ?_
   refine J0 (R0 ?_)
   refine K0 (mr) ?_
   refine T0 ?_
   exact⟨_,tR _,rfl,rfl⟩
end Go.Proofs.YthohbneadomgdaaGreatDoor
namespace Go.Proofs.YthohbneadomgdaaGreatDoor
open Go.RowKit
theorem rrotr_key(x n m:Nat)(hx:x<4294967296)(hn1:2≤n)(hn:n≤31)(hm:m=32-n):
 bits .or .i64 ((x:Int)/2^n) (bits .and .i64 (wrap64 ((x:Int)*2^m)) 4294967295)=(Sha.rotr x n:Nat):=by
 have Y:x*2^m≤4611686018427387904:=by
  have I:2^m≤2^30:=Nat.pow_le_pow_right (by decide) (by omega)
  exact Nat.le_trans (Nat.mul_le_mul (Nat.le_of_lt hx) I) (by decide)
 have U:wrap64 ((x:Int)*2^m)=((x*2^m:Nat):Int):=by
  have e:((x:Int)*2^m)=((x*2^m:Nat):Int):=by push_cast;rfl
  rw[e]
  generalize x*2^m=P at*
  unfold wrap64
  omega
 have O:((x:Int)/2^n)=((x/2^n:Nat):Int):=by push_cast;rfl
 have h2:x/2^n≤x:=Nat.div_le_self _ _
 have E:=QA (x*2^m) 4294967295 (by omega) (by omega)
 rw[show x*2^m&&&4294967295=x*2^m%4294967296 from Nat.and_two_pow_sub_one_eq_mod _ 32]at E
 have Z:x*2^m%4294967296<4294967296:=Nat.mod_lt _ (by decide)
 rw[U,O]
 refine(congrArg (bits .or .i64 ((x/2^n:Nat):Int)) E).trans ?_
 rw[VW _ _ (by omega) (by omega)]
 unfold Sha.rotr
 rw[Nat.shiftRight_eq_div_pow,Nat.shiftLeft_eq,hm]
theorem rrotr_any(x n:Nat)(hx:x<4294967296)(hn1:2≤n)(hn:n≤31)(w:World):
 Calls qc 240 #[.int .i64 x,.int .i64 n] w fun e w'=>e=.returned (.int .i64 (Sha.rotr x n:Nat))∧Below w.heap.size w w':=by
 have Y:(0:Int)≤n:=by omega
 have Z:(n:Int)<64:=by omega
 obtain⟨m,E⟩:∃m:Nat,m=32-n:=⟨_,rfl⟩
 have U:(32:Int)-n=m:=by omega
 have m1:(0:Int)≤m:=by omega
 have m2:(m:Int)<64:=by omega
 have O:=Lib.hid (rrotr_key x n m hx hn1 hn E)
 clear E
 go_enter Tryz.func240,Tryz.ntmps240
 go_wp2_with fail
 go_quiet (fail)
 have I:=Lib.hid ((Same.drewN w nq).below w.heap.size)
 generalize w.drewN nq=w1 at*
 go_wp2_with fail
 go_ret
 exact⟨by rw[←O.out];rfl,I.out⟩
def natV(n:Nat):Value:=.int .i64 n
def w8i(v:Sha.W8):List Nat:=[v.a,v.b,v.c,v.d,v.e,v.f,v.g,v.h]
def Kf(m:List UInt8)(k:Nat):List UInt8:=m++0x80::qd k 0
theorem padS_snoc(m:List UInt8)(k:Nat):J5 (Kf m k)++[JB 0]=J5 (Kf m (k+1)):=by
 simp[J5,Kf,qo]
theorem padS_length(m:List UInt8)(k:Nat):(Kf m k).length=m.length+1+k:=by
 simp[Kf];omega
theorem pad_byte(n j:Nat)(hn:n≤140737488355200)(hj:j<8):Value.int .u8 (bits BinOp.and IntKind.i64 (8*(n:Int)/2^(8*(7-j))) 255%256)=JB (UInt8.ofNat ((8*n)>>>(56-8*j))):=by
 have e:(8*(n:Int)/2^(8*(7-j)))=((8*n/2^(8*(7-j)):Nat):Int):=by push_cast;rfl
 have I:8*n/2^(8*(7-j))≤8*n:=Nat.div_le_self _ _
 have E:=QA (8*n/2^(8*(7-j))) 255 (by omega) (by omega)
 rw[show 8*n/2^(8*(7-j))&&&255=8*n/2^(8*(7-j))%256 from Nat.and_two_pow_sub_one_eq_mod _ 8]at E
 rw[e]
 unfold JB
 congr 1
 refine(congrArg (·%256) E).trans ?_
 rw[UInt8.toNat_ofNat',Nat.shiftRight_eq_div_pow,show 56-8*j=8*(7-j) by omega]
 omega
theorem pad_snoc(q:List UInt8)(n j:Nat)(hn:n≤140737488355200)(hj:j<8):J5 (q++(Sha.be8 (8*n)).take j)++[Value.int .u8 (bits BinOp.and IntKind.i64 (8*(n:Int)/2^(8*(7-j))) 255%256)]=J5 (q++(Sha.be8 (8*n)).take (j+1)):=by
 rw[pad_byte n j hn hj,List.take_add_one,be8_get _ _ hj]
 simp[J5]
end Go.Proofs.YthohbneadomgdaaGreatDoor
