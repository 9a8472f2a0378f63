import Derived.Test.YthohbneadomgdaaGreatDoorStag06
set_option linter.all false
set_option maxRecDepth 100000
set_option maxHeartbeats 16000000
open Nat renaming reduceLT→yQ,reduceEqDiff→yK,reduceAdd→yV,reduceSub→yY,reduceMul→yU
open Int renaming reduceToNat→yW,reduceLE→yX,reduceEq→yZ,reduceLT→yJ
open Int renaming ofNat_eq_natCast→qd,ofNat→qe
open Array renaming getElem?_eq_getElem→qf,getD_eq_getD_getElem?→qh,getElem?_eq_some_iff→qp,getElem?_replicate→qw,getElem?_toList→qz,replicate→qF
open Nat renaming le_refl→qi,le_of_ble_eq_true→qo,blt→qq,lt_or_ge→qr,lt_trichotomy→qy,ble→qG
open Bool renaming or_eq_true→qj,and_eq_true→qk,or_false→qx,eq_iff_iff→qB
open Option renaming ne_none_iff_exists'→qt
open List renaming ext_getElem?→qu,all_eq_true→qv,getElem?_append→qA,mem_range→qC,getElem?_eq_none→qD,mem_of_getElem?→qE,range→qH
namespace Go.Proofs.YthohbneadomgdaaGreatDoor.Abs
open Go
section
variable [Defs]
theorem Rel.part{κ:Nat→Loc}{M M':Mem}{w:World}(h:Rel κ M w)(hg:∀b x,M'.get b=some x→M.get b=some x)
 (hcl:∀b x,M'.get b=some x→ClBlk M'.Has x):Rel κ M' w:=by
 refine⟨fun b ro s cs hb=>?_,fun b x hb=>?_,fun b b' hb hb'=>?_,⟨h.glob.known,fun b ⟨y,hb,I⟩=>h.glob.own b ⟨y,hg _ _ hb,I⟩⟩⟩
 ·obtain⟨C,e,fz,E,h2,U,h4,O,Z⟩:=h.at' b ro s cs (hg _ _ hb)
  refine⟨C,e,fz,E,h2,U,h4,fun i v hi=>?_,Z⟩
  obtain⟨h7,v',Y,h9⟩:=O i v hi
  exact⟨h7,v',Y,(hcl b _ hb v (qE hi)).rel h9⟩
 ·have E:=h.oth b x (hg _ _ hb)
  cases x with
  |cells=>trivial
  |kv=>exact E
  |raw=>exact E
  |it ro b' s seen l=>exact⟨E.1,E.2.1,hcl b _ hb⟩
 ·refine h.inj b b' ?_ ?_
  ·obtain⟨x,hx⟩:=qt.1 hb
   rw[hg _ _ hx];simp
  ·obtain⟨y,hx,I⟩:=hb'
   exact⟨y,hg _ _ hx,I⟩
open Classical in
noncomputable def Kn(M1':Mem)(κ' κ:Nat→Loc):Nat→Loc:=fun b=>if M1'.Has b then κ' b else κ b
theorem QO{M1':Mem}{κ' κ:Nat→Loc}{b:Nat}(h:M1'.Has b):Kn M1' κ' κ b=κ' b:=by unfold Kn;rw[if_pos h]
theorem QX{M1':Mem}{κ' κ:Nat→Loc}{b:Nat}(h:¬M1'.Has b):Kn M1' κ' κ b=κ b:=by unfold Kn;rw[if_neg h]
theorem part_step{κ κ':Nat→Loc}{M M1 M1' M':Mem}{w w':World}(h:Rel κ M w)(h':Rel κ' M1' w')(hs:Step κ M1 w κ' M1' w')
 (h1:∀b,M1.Has b→M.Has b∧M1.get b=M.get b) (h2:∀b,M1'.Has b→M1.Has b∨¬M.Has b) (h3:∀b,M1.Has b→M1'.get b≠none→M1.get b≠none)
 (h4:∀b,M1'.Has b→¬M.Has b→M1'.get b≠none→M1'.Own b)
 (g1:∀b,M1'.Has b→M'.get b=M1'.get b) (g2:∀b,¬M1'.Has b→M'.get b=M.get b) (g3:∀b,M'.Has b↔M.Has b∨M1'.Has b):
 Rel (Kn M1' κ' κ) M' w'∧Step κ M w (Kn M1' κ' κ) M' w':=by
 have Y:∀b,M.Has b→Kn M1' κ' κ b=κ b:=fun b hb=>by
  by_cases hc:M1'.Has b
  ·rw[QO hc]
   rcases h2 b hc with h5|h5
   ·exact hs.at_ b h5
   ·exact absurd hb h5
  ·exact QX hc
 have O:∀b,M1.Own b→M.Own b:=fun b ⟨y,hb,U⟩=>⟨y,by rw[←(h1 b (Mem.get_has hb)).2];exact hb,U⟩
 have E:∀{M:Mem}{b:Nat},M.Own b→M.Has b:=fun⟨_,hb,_⟩=>Mem.get_has hb
 have aa:∀{M:Mem}{b:Nat},M.get b≠none→M.Has b:=fun hb=>by
  obtain⟨x,hx⟩:=qt.1 hb
  exact Mem.get_has hx
 have I:∀{M:Mem}{b:Nat},M.Own b→M.get b≠none:=fun⟨_,hb,_⟩=>by rw[hb];simp
 refine⟨⟨fun b ro s cs hb=>?_,fun b x hb=>?_,fun b b' hb hb' hne=>?_,⟨h'.glob.known,fun b ⟨y,hb,U⟩=>?_⟩⟩,⟨hs.os,hs.tape,hs.output,hs.size,fun b hb=>(g3 b).2 (.inl hb),Y,fun g hg ho=>?_,fun b hb=>?_⟩⟩
 ·by_cases hc:M1'.Has b
  ·rw[g1 b hc]at hb
   obtain⟨C,e,fz,k1,k2,k3,k4,k5,k6⟩:=h'.at' b ro s cs hb
   rw[QO hc]
   refine⟨C,e,fz,k1,k2,k3,k4,fun i v hi=>?_,k6⟩
   obtain⟨k7,v',k8,k9⟩:=k5 i v hi
   exact⟨k7,v',k8,k9.mono (fun c hc=>(g3 c).2 (.inr hc)) fun c hc=>QO hc⟩
  ·rw[g2 b hc]at hb
   obtain⟨C,e,fz,k1,k2,k3,k4,k5,k6⟩:=h.at' b ro s cs hb
   rw[QX hc]
   refine⟨C,e,fz,?_,k2,k3,k4,fun i v hi=>?_,k6⟩
   ·rw[hs.block _ (qp.1 k1).1 fun b' hb'=>?_]
    ·exact k1
    ·intro he
     refine h.inj b b' (by rw[hb];simp) (O b' hb') (fun he=>hc ?_) he.symm
     rw[he]
     exact hs.grows b' (E hb')
   ·obtain⟨k7,v',k8,k9⟩:=k5 i v hi
    exact⟨k7,v',k8,k9.mono (fun c hc=>(g3 c).2 (.inl hc)) fun c hc=>Y c hc⟩
 ·by_cases hc:M1'.Has b
  ·rw[g1 b hc]at hb
   rw[QO hc]
   exact(h'.oth b x hb).mono (fun c hc=>(g3 c).2 (.inr hc)) fun c hc=>QO hc
  ·rw[g2 b hc]at hb
   rw[QX hc]
   rw[hs.block _ (h.lt (by rw[hb];simp)) fun b' hb' he=>?_]
   ·exact(h.oth b x hb).mono (fun c hc=>(g3 c).2 (.inl hc)) fun c hc=>Y c hc
   ·refine h.inj b b' (by rw[hb];simp) (O b' hb') (fun he=>hc ?_) he.symm
    rw[he]
    exact hs.grows b' (E hb')
 ·by_cases hc:M1'.Has b<;>by_cases hc':M1'.Has b'
  ·rw[QO hc,QO hc']
   refine h'.inj b b' (by rw[←g1 b hc];exact hb) ?_ hne
   obtain⟨y,hx,U⟩:=hb'
   exact⟨y,by rw[←g1 b' hc'];exact hx,U⟩
  ·rw[QO hc,QX hc']
   have Z:M.Own b':=by
    obtain⟨y,hx,U⟩:=hb'
    exact⟨y,by rw[←g2 b' hc'];exact hx,U⟩
   have hl:M1'.get b≠none:=by rw[←g1 b hc];exact hb
   rcases h2 b hc with h5|h5
   ·rw[hs.at_ b h5]
    refine h.inj b b' ?_ Z hne
    rw[←(h1 b h5).2]
    exact h3 b h5 hl
   ·rcases hs.own b (h4 b hc h5 hl)with h6|⟨a7,h6,h7⟩
    ·have:=h.lt (I Z)
     intro he;omega
    ·rw[←h7]
     intro he
     refine h.inj b' a7 (I Z) (O _ h6) (fun e=>hc' ?_) he.symm
     rw[e];exact hs.grows _ (E h6)
  ·rw[QX hc,QO hc']
   have hl:M.get b≠none:=by rw[←g2 b hc];exact hb
   have Z:M1'.Own b':=by
    obtain⟨y,hx,U⟩:=hb'
    exact⟨y,by rw[←g1 b' hc'];exact hx,U⟩
   rcases hs.own b' Z with h6|⟨a7,h6,h7⟩
   ·have:=h.lt hl
    intro he;omega
   ·rw[←h7]
    refine h.inj b a7 hl (O _ h6) fun e=>hc ?_
    rw[e];exact hs.grows _ (E h6)
  ·rw[QX hc,QX hc']
   refine h.inj b b' (by rw[←g2 b hc];exact hb) ?_ hne
   obtain⟨y,hx,U⟩:=hb'
   exact⟨y,by rw[←g2 b' hc'];exact hx,U⟩
 ·by_cases hc:M1'.Has b
  ·rw[QO hc]
   exact h'.glob.own b ⟨y,by rw[←g1 b hc];exact hb,U⟩
  ·rw[QX hc]
   exact h.glob.own b ⟨y,by rw[←g2 b hc];exact hb,U⟩
 ·exact hs.block g hg fun b hb=>ho b (O b hb)
 ·by_cases hc:M1'.Has b
  ·rw[QO hc]
   have ho:M1'.Own b:=by
    obtain⟨y,hx,U⟩:=hb
    exact⟨y,by rw[←g1 b hc];exact hx,U⟩
   rcases hs.own b ho with h6|⟨a7,h6,h7⟩
   ·exact .inl h6
   ·exact .inr ⟨a7,O _ h6,h7⟩
  ·rw[QX hc]
   obtain⟨y,hx,U⟩:=hb
   exact .inr ⟨b,⟨y,by rw[←g2 b hc];exact hx,U⟩,rfl⟩
def Vr:Option Blk→Bool|some x=>x.own|none=>true
section
variable (P : Program) (ops : Array Oper) (a₀ : List Value) (m : Mem) (v : Nat → Value) (N : Nat → List (Option Blk))
def Uf(k:Nat):List Value:=Jd ops v (B ops k) a₀ k
def Xa(k:Nat):Mem:=Jq m N (B ops k) k
def memOf(k:Nat):Mem:=(Xa ops m N k).app (N k)
def DOp(k:Nat)(o:Oper):Prop:=
 if Region.wanted o (JJ ops.toList (Uf ops a₀ v k))=true then OpOK P o (Uf ops a₀ v k) (Xa ops m N k) (v k) (memOf ops m N k)∧(N k).all Vr=true
 else v k=undef∧N k=[]
end
section
variable {P : Program} {ops : Array Oper} {a₀ : List Value} {m : Mem} {v : Nat → Value} {N : Nat → List (Option Blk)}
theorem UO(k:Nat):memOf ops m N k=Jq m N (fun j=>B ops k j||j==k) (k+1):=memAt_own _ _
theorem VI(k b:Nat):(memOf ops m N k).Has b↔m.Has b∨(∃j,j<k∧B ops k j=true∧IsNew m N j b)∨IsNew m N k b:=by
 rw[UO,JF]
 constructor
 ·rintro(h|⟨j,I,h2,E⟩)
  ·exact .inl h
  ·by_cases e:j=k
   ·subst e;exact .inr (.inr E)
   ·have:(j==k)=false:=by simp[e]
    rw[this,qx]at h2
    exact .inr (.inl ⟨j,by omega,h2,E⟩)
 ·rintro(h|⟨j,I,h2,E⟩|h)
  ·exact .inl h
  ·exact .inr ⟨j,by omega,by simp[h2],E⟩
  ·exact .inr ⟨k,by omega,by simp,h⟩
theorem memOf_get(k b:Nat)(x:Blk):(memOf ops m N k).get b=some x↔(b<m.size∧m.get b=some x)∨(∃j,j<k∧B ops k j=true∧m.size+off N j≤b∧(N j)[b-(m.size+off N j)]?=some (some x))∨(m.size+off N k≤b∧(N k)[b-(m.size+off N k)]?=some (some x)):=by
 rw[UO,QW]
 constructor
 ·rintro(h|⟨j,O,h2,I,E⟩)
  ·exact .inl h
  ·by_cases e:j=k
   ·subst e;exact .inr (.inr ⟨I,E⟩)
   ·have:(j==k)=false:=by simp[e]
    rw[this,qx]at h2
    exact .inr (.inl ⟨j,by omega,h2,I,E⟩)
 ·rintro(h|⟨j,O,h2,I,E⟩|⟨I,E⟩)
  ·exact .inl h
  ·exact .inr ⟨j,by omega,by simp[h2],I,E⟩
  ·exact .inr ⟨k,by omega,by simp,I,E⟩
theorem memAt_get_mono{S T:Nat→Bool}{i n:Nat}(hin:i≤n)(h:∀j,j<i→S j=true→T j=true){b:Nat}{x:Blk}(hb:(Jq m N S i).get b=some x):(Jq m N T n).get b=some x:=by
 rw[QW]at hb ⊢
 rcases hb with hb|⟨k,E,h2,I⟩
 ·exact .inl hb
 ·exact .inr ⟨k,by omega,h k E h2,I⟩
theorem Zt{S T:Nat→Bool}{i n:Nat}(hin:i≤n)(h:∀j,j<i→S j=true→T j=true){b:Nat}(hb:(Jq m N S i).Has b):(Jq m N T n).Has b:=by
 rw[JF]at hb ⊢
 rcases hb with hb|⟨k,E,h2,I⟩
 ·exact .inl hb
 ·exact .inr ⟨k,by omega,h k E h2,I⟩
theorem Uc{S T:Nat→Bool}{i n:Nat}(hin:i≤n)(h:∀j,j<i→S j=true→T j=true){b:Nat}(hb:(Jq m N S i).Has b):(Jq m N S i).get b=(Jq m N T n).get b:=by
 cases hx:(Jq m N T n).get b with
 |some x=>
  rw[QW]at hx ⊢
  rcases hx with hx|⟨k,U,h2,E,I⟩
  ·exact .inl hx
  ·rcases(JF _ _ _).1 hb with h5|⟨j,h5,h6,h7⟩
   ·have:=Mem.has_lt h5;omega
   ·have O:IsNew m N k b:=⟨E,by have:=(List.getElem?_eq_some_iff.1 I).1;omega⟩
    have:=h7.unique O
    subst this
    exact .inr ⟨j,h5,h6,E,I⟩
 |none=>
  cases hy:(Jq m N S i).get b with
  |none=>rfl
  |some y=>rw[memAt_get_mono hin h hy]at hx;cases hx
theorem newsAt_congr'{S T:Nat→Bool}:∀n,(∀k,k<n→S k=T k∨N k=[])→Q7 N S n=Q7 N T n
 |0,_=>rfl
 |n+1,h=>by
  simp only[Q7,newsAt_congr' n fun k hk=>h k (by omega)]
  rcases h n (by omega)with h|h<;>rw[h]
  rfl
theorem Ks:∀(S:Nat→Bool)(n t:Nat)(x:Value),(Jd ops v S a₀ n)[t]?=some x→a₀[t]?=some x∨∃j,j<n∧S j=true∧x=v j
 |S,0,t,x,h=>.inl h
 |S,n+1,t,x,h=>by
  simp only[Jd]at h
  split at h
  ·rename_i hS
   by_cases hd:(ops[n]?).bind (·.dst)=some t
   ·rw[hd]at h
    simp only[QT]at h
    rw[List.getElem?_set]at h
    simp only[if_true]at h
    split at h
    ·exact .inr ⟨n,by omega,hS,by simpa using h.symm⟩
    ·cases h
   ·rw[aPut_get _ _ _ _ hd]at h
    rcases Ks S n t x h with h|⟨j,h1,h2⟩
    ·exact .inl h
    ·exact .inr ⟨j,by omega,h2⟩
  ·rcases Ks S n t x h with h|⟨j,h1,h2⟩
   ·exact .inl h
   ·exact .inr ⟨j,by omega,h2⟩
theorem U0(S:Nat→Bool):∀n,(Jd ops v S a₀ n).length=a₀.length
 |0=>rfl
 |n+1=>by simp only[Jd];split<;>simp[aPut_length,U0 S n]
structure Inv(ops:Array Oper)(a₀:List Value)(m:Mem)(v:Nat→Value)(N:Nat→List (Option Blk))(q:Nat)(ι₀:Nat→Loc)(m₀:Mem)(w₀:World)(S:Nat→Bool)(κ:Nat→Loc)(act:Act)(w:World):Prop where
 down:Down ops S
 low:∀k,q≤k→S k=false
 frame:ARel (Jq m N S q).Has κ (Jd ops v S a₀ q) act
 rel:Rel κ (Jq m N S q) w
 step:Step ι₀ m₀ w₀ κ (Jq m N S q) w
 vals:∀k,k<q→S k=true→Cl (memOf ops m N k).Has (v k)
 blks:∀k,k<q→S k=true→∀x,some x∈N k→ClBlk (memOf ops m N k).Has x
theorem Zo(o:Oper){f g:Nat→Option Bool}(h:∀i b,o.guard=some (i,b)→f i=g i):Region.wanted o f=Region.wanted o g:=by
 unfold Region.wanted
 cases hg:o.guard with
 |none=>rfl
 |some p=>obtain⟨i,b⟩:=p;simp only[h i b hg]
theorem Inv.op{q:Nat}{ι₀:Nat→Loc}{m₀:Mem}{w₀:World}{S:Nat→Bool}{κ:Nat→Loc}{act:Act}{w:World}{Q:Exit→Act→World→Prop}(h:Inv ops a₀ m v N q ι₀ m₀ w₀ S κ act w)
 (hq:Xz ops q=true) (hqs:q≤ops.size) (ha₀:∀(t:Nat)(x:Value),a₀[t]?=some x→Cl m.Has x) (hm:∀b x,m.get b=some x→ClBlk m.Has x)
 {i:Nat} {o:Oper} (hi:ops[i]?=some o) (hiq:i<q) (hS:S i=false) (hall:∀e∈o.after,Region.binds .any e=true→S e.on=true) (hd:DOp P ops a₀ m v N i o)
 {K:Act→World→Prop} (hK:∀κ' act' w',Inv ops a₀ m v N q ι₀ m₀ w₀ (fun k=>S k||k==i) κ' act' w'→K act' w'):
 wpOp P ops Q i K act w:=by
 simp only[Xz,qk]at hq
 obtain⟨⟨an,ab⟩,ai⟩:=hq
 have Y:∀j,B ops i j=true→S j=true:=fun j hj=>h.down.bef i o hi hall j hj
 have aq:i<ops.size:=by omega
 have ak:∀t,t∈o.looksAt ops→∀k,k<q→(ops[k]?).bind (·.dst)=some t→S k=true→k<i∧B ops i k=true:=by
  intro t ht k O I E
  cases Z:ops[k]? with
  |none=>rw[Z]at I;cases I
  |some ok=>
   rw[Z]at I
   simp only[Option.bind_some]at I
   rcases qy k i with av|aH|ax
   ·refine⟨av,?_⟩
    cases hb:B ops i k
    ·exact absurd ht ((Oper.apart_spec (Qq ai av hiq Z hi hb)).1 t I)
    ·rfl
   ·subst aH;rw[E]at hS;cases hS
   ·exfalso
    cases hb:B ops k i
    ·exact absurd ht ((Oper.apart_spec (Qq ai ax O hi Z hb)).2.2 t I)
    ·have:=h.down.bef k ok Z (h.down k ok Z E) i hb
     rw[hS]at this;cases this
 have af:∀t,t∈o.looksAt ops→(Jd ops v S a₀ q)[t]?=(Uf ops a₀ v i)[t]?:=by
  intro t ht
  have e1:(Jd ops v S a₀ q)[t]?=(Jd ops v (fun k=>B ops i k&&decide (k<i)) a₀ q)[t]?:=Q2 t q fun k O I=>by
   cases E:S k
   ·cases hb:B ops i k
    ·simp
    ·rw[Y k hb]at E;cases E
   ·obtain⟨h1,h2⟩:=ak t ht k O I E
    simp[h1,h2]
  rw[e1,Zz (i:=i) q (by omega) (fun k h1 _=>by simp;omega)]
  exact Q2 t i fun k O _=>by simp[O]
 have hw:Region.wanted o (yielded ops act.tmps)=Region.wanted o (JJ ops.toList (Uf ops a₀ v i)):=by
  refine Zo o fun g b hg=>?_
  rw[Vc h.frame ops g]
  unfold JJ
  simp only[qz]
  cases hog:ops[g]? with
  |none=>rfl
  |some og=>
   cases hdg:og.dst with
   |none=>simp[hdg]
   |some t=>
    simp only[hdg]
    rw[af t (by simp[Oper.looksAt,hg,hog,hdg])]
 have a2:∀j,j<q→S j=true→(S j||j==i)=true:=fun j _ hj=>by simp[hj]
 have hB:∀j,j<i→B ops i j=true→S j=true:=fun j _ hj=>Y j hj
 have aj:∀j,j<i+1→(B ops i j||j==i)=true→(S j||j==i)=true:=fun j _ hj=>by
  rcases qj _ _▸hj with hj|hj
  ·simp[Y j hj]
  ·simp[hj]
 have I:∀k,i<k→k<q→S k=true→∀t,(ops[i]?).bind (·.dst)=some t→(ops[k]?).bind (·.dst)≠some t:=by
  intro k aB aC E t ht au
  have O:ops[k]?=some ops[k]:=qf (by omega)
  rw[hi]at ht
  rw[O]at au
  cases hb:B ops k i
  ·exact(Oper.apart_spec (Qq ai aB aC hi O hb)).2.1 t ht au
  ·have:=h.down.bef k _ O (h.down k _ O E) i hb
   rw[hS]at this;cases this
 have a8:Down ops (fun k=>S k||k==i):=by
  intro k ok O E e he hb
  simp only[qj,beq_iff_eq]at E ⊢
  rcases E with E|rfl
  ·exact .inl (h.down k ok O E e he hb)
  ·rw[hi]at O;cases O
   exact .inl (hall e he hb)
 have ae:∀k,q≤k→(S k||k==i)=false:=fun k O=>by
  have:(k==i)=false:=by simp;omega
  simp[h.low k O,this]
 unfold wpOp
 simp only[hi]
 rw[hw]
 unfold DOp at hd
 split
 ·rename_i hwant
  rw[if_pos hwant]at hd
  obtain⟨Z,am⟩:=hd
  refine .inl ?_
  have ah:Rel κ (Xa ops m N i) w:=by
   refine h.rel.part (fun b x hb=>memAt_get_mono (by omega) hB hb) fun b x hb=>?_
   rcases(QW _ _ _ _).1 hb with⟨_,hb'⟩|⟨k,h1,h2,h3,h4⟩
   ·exact(hm b x hb').mono fun b' hb'=>(JF _ _ _).2 (.inl hb')
   ·refine(h.blks k (by omega) (Y k h2) _ (qE h4)).mono fun b' hb'=>(JF _ _ _).2 ?_
    rcases(VI k b').1 hb' with h5|⟨j,h5,U,h7⟩|h5
    ·exact .inl h5
    ·exact .inr ⟨j,by omega,B_trans ab aq h2 U,h7⟩
    ·exact .inr ⟨k,h1,h2,h5⟩
  have aI:∀(t:Nat)(x:Value),(Uf ops a₀ v i)[t]?=some x→Cl (Xa ops m N i).Has x:=by
   intro t x hx
   rcases Ks _ _ t x hx with hx|⟨k,h1,h2,rfl⟩
   ·exact(ha₀ t x hx).mono fun b' hb'=>(JF _ _ _).2 (.inl hb')
   ·refine(h.vals k (by omega) (Y k h2)).mono fun b' hb'=>(JF _ _ _).2 ?_
    rcases(VI k b').1 hb' with h5|⟨j,h5,U,h7⟩|h5
    ·exact .inl h5
    ·exact .inr ⟨j,by omega,B_trans ab aq h2 U,h7⟩
    ·exact .inr ⟨k,h1,h2,h5⟩
  let fm:Nat→Bool:=fun t=>(o.looksAt ops).contains t
  let act':Act:={ act with tmps:=(maskL fm act.tmps.toList).toArray }
  have aw:(Uf ops a₀ v i).length=act.tmps.toList.length:=by
   rw[←h.frame.tmps.1]
   unfold Uf
   rw[U0,U0]
  have ay:ARel (Xa ops m N i).Has κ (maskL fm (Uf ops a₀ v i)) act':=by
   refine⟨h.frame.defers,by simp only[act',maskL_length,List.toList_toArray];exact aw,fun t x y hx hy=>?_⟩
   simp only[act',List.toList_toArray]at hy
   rw[maskL_get]at hx hy
   cases hfm:fm t
   ·simp only[hfm,Bool.false_eq_true,if_false,Option.map_eq_some_iff]at hx hy
    obtain⟨_,_,rfl⟩:=hx
    obtain⟨_,_,rfl⟩:=hy
    exact Xv
   ·simp only[hfm,if_true,Option.map_id']at hx hy
    have ht:t∈o.looksAt ops:=by simpa[fm]using hfm
    exact(aI t x hx).rel (h.frame.tmps.2 t x y (by rw[af t ht];exact hx) hy)
  have aa:∀t,Operand.tmp t∈o.op.operands→fm t=true:=fun t ht=>by
   simp only[fm,List.contains_iff_mem,Oper.looksAt,List.mem_append,List.mem_filterMap]
   exact .inl ⟨.tmp t,by simpa using ht,rfl⟩
  have aE:∀x∈o.op.operands,JD (Uf ops a₀ v i) x=JD (maskL fm (Uf ops a₀ v i)) x:=by
   intro x hx
   cases x with
   |tmp t=>simp only[JD,maskL_get,aa t hx,if_true,Option.map_id']
   |_=>rfl
  have aA:execOp act.eval o=execOp act'.eval o:=by
   refine execOp_congr o (fun cs b=>Region.noSelect_spec an i o cs b hi) fun x hx=>?_
   cases x with
   |tmp t=>
    have:act'.tmps[t]?=act.tmps[t]?:=by
     simp only[act',List.getElem?_toArray,maskL_get,aa t hx,if_true,Option.map_id',qz]
    simp only[Act.eval,qh,this]
   |_=>rfl
  refine Z _ κ act' act w _ _ aE ay ah aA ?_
  rintro _ _ v' w' κ' ⟨rfl,rfl⟩ hv ar az
  have aF:=part_step (M:=Jq m N S q) (M':=Jq m N (fun k=>S k||k==i) q) h.rel ar az
   (fun b hb=>⟨Zt (by omega) hB hb,Uc (by omega) hB hb⟩)
   (fun b hb=>by
    rcases(VI i b).1 hb with h5|⟨j,h5,U,h7⟩|h5
    ·exact .inl ((JF _ _ _).2 (.inl h5))
    ·exact .inl ((JF _ _ _).2 (.inr ⟨j,h5,U,h7⟩))
    ·refine .inr fun hb=>?_
     rcases(JF _ _ _).1 hb with U|⟨k,_,h7,h8⟩
     ·exact new_has h5 U
     ·have:=h8.unique h5
      subst this
      rw[hS]at h7;cases h7)
   (fun b hb hl=>by
    rw[UO]at hl
    rw[show Xa ops m N i=Jq m N (B ops i) i from rfl,Uc (T:=fun j=>B ops i j||j==i) (n:=i+1) (by omega) (fun j _ hj=>by simp[hj]) hb]
    exact hl)
   (fun b hb hnb hl=>by
    obtain⟨x,hx⟩:=qt.1 hl
    rcases(memOf_get i b x).1 hx with⟨_,h5⟩|⟨j,h5,U,h7,h8⟩|⟨h5,U⟩
    ·exact absurd ((JF _ _ _).2 (.inl (Mem.get_has h5))) hnb
    ·exact absurd ((JF _ _ _).2 (.inr ⟨j,by omega,Y j U,h7,by have:=(List.getElem?_eq_some_iff.1 h8).1;omega⟩)) hnb
    ·have:=qv.1 am (some x) (qE U)
     exact⟨x,hx,this⟩)
   (fun b hb=>by
    rw[UO]at hb ⊢
    exact(Uc (by omega) aj hb).symm)
   (fun b hb=>by
    by_cases hMb:(Jq m N S q).Has b
    ·exact(Uc (qi _) a2 hMb).symm
    ·have e1:(Jq m N S q).get b=none:=by
      cases hg:(Jq m N S q).get b with
      |none=>rfl
      |some x=>exact absurd (Mem.get_has hg) hMb
     rw[e1]
     cases hg:(Jq m N (fun k=>S k||k==i) q).get b with
     |none=>rfl
     |some x=>
      exfalso
      rcases(JF _ _ _).1 (Mem.get_has hg)with h5|⟨k,h5,U,h7⟩
      ·exact hMb ((JF _ _ _).2 (.inl h5))
      ·simp only[qj,beq_iff_eq]at U
       rcases U with U|rfl
       ·exact hMb ((JF _ _ _).2 (.inr ⟨k,h5,U,h7⟩))
       ·exact hb ((VI k b).2 (.inr (.inr h7))))
   (fun b=>by
    constructor
    ·intro hb
     rcases(JF _ _ _).1 hb with h5|⟨k,h5,U,h7⟩
     ·exact .inl ((JF _ _ _).2 (.inl h5))
     ·simp only[qj,beq_iff_eq]at U
      rcases U with U|rfl
      ·exact .inl ((JF _ _ _).2 (.inr ⟨k,h5,U,h7⟩))
      ·exact .inr ((VI k b).2 (.inr (.inr h7)))
    ·rintro(hb|hb)
     ·exact Zt (qi _) a2 hb
     ·rw[UO]at hb
      exact Zt (by omega) aj hb)
  obtain⟨ao,a6⟩:=aF
  refine hK _ _ w' ⟨a8,ae,?_,ao,h.step.trans a6,fun k O E=>?_,fun k O E x hx=>?_⟩
  ·rw[frameAt_add hS q hiq I,hi]
   refine(h.frame.mono a6.grows a6.at_).put' o.dst (hv.mono (fun b hb=>?_) fun b hb=>QO hb)
   rw[UO]at hb
   exact Zt (by omega) aj hb
  ·simp only[qj,beq_iff_eq]at E
   rcases E with E|rfl
   ·exact h.vals k O E
   ·exact hv.cl
  ·simp only[qj,beq_iff_eq]at E
   rcases E with E|rfl
   ·exact h.blks k O E x hx
   ·obtain⟨r,hr,aG⟩:=List.getElem_of_mem hx
    have hg:(memOf ops m N k).get (m.size+off N k+r)=some x:=(memOf_get k _ x).2 (.inr (.inr ⟨by omega,by rw[show m.size+off N k+r-(m.size+off N k)=r by omega,List.getElem?_eq_getElem hr,aG]⟩))
    exact ar.clBlk _ x hg
 ·rename_i hwant
  rw[if_neg hwant]at hd
  obtain⟨hv,hN⟩:=hd
  have ad:Jq m N (fun k=>S k||k==i) q=Jq m N S q:=by
   unfold Jq
   rw[newsAt_congr' q fun k O=>?_]
   by_cases e:k=i
   ·subst e;exact .inr hN
   ·have:(k==i)=false:=by simp[e]
    exact .inl (by simp[this])
  refine hK κ _ w ⟨a8,ae,?_,by rw[ad];exact h.rel,by rw[ad];exact h.step,fun k O E=>?_,fun k O E x hx=>?_⟩
  ·rw[frameAt_add hS q hiq I,hi,ad,hv]
   exact h.frame.put' o.dst Xv
  ·simp only[qj,beq_iff_eq]at E
   rcases E with E|rfl
   ·exact h.vals k O E
   ·rw[hv];exact(Xv (ι:=κ)).cl
  ·simp only[qj,beq_iff_eq]at E
   rcases E with E|rfl
   ·exact h.blks k O E x hx
   ·rw[hN]at hx;cases hx
end
end
section
variable [Defs]
def XJ(f:Nat→Bool):Nat→Nat
 |0=>0
 |n+1=>XJ f n+if f n then 0 else 1
theorem ZP{f:Nat→Bool}{i:Nat}(hf:f i=false):∀n,i<n→XJ (fun k=>f k||k==i) n+1=XJ f n:=by
 have low:∀n,n≤i→XJ (fun k=>f k||k==i) n=XJ f n:=by
  intro n
  induction n with
  |zero=>intro _;rfl
  |succ n ih=>
   intro h
   have E:(n==i)=false:=by simp;omega
   simp only[XJ,E,qx,ih (by omega)]
 intro n
 induction n with
 |zero=>intro h;omega
 |succ n ih=>
  intro h
  by_cases e:n=i
  ·subst e
   simp only[XJ,hf,beq_self_eq_true,Bool.or_true,if_true,Bool.false_eq_true,if_false,low n (qi _)]
  ·have E:(n==i)=false:=by simp;omega
   have:=ih (by omega)
   simp only[XJ,E,qx]
   omega
theorem UR{f:Nat→Bool}{i:Nat}(hf:f i=false):∀n,i<n→0<XJ f n
 |n+1,h=>by
  by_cases e:n=i
  ·subst e;simp[XJ,hf]
  ·have:=UR hf n (by omega)
   simp only[XJ];omega
theorem VY:∀n,XJ (fun _=>false) n=n
 |0=>rfl
 |n+1=>by simp[XJ,VY n]
theorem exists_first{f:Nat→Bool}:∀n,(∃k,k<n∧f k=false)→∃k,k<n∧f k=false∧∀j,j<k→f j=true:=by
 intro n
 induction n with
 |zero=>rintro⟨k,h,_⟩;omega
 |succ n ih=>
  rintro⟨k,h,I⟩
  by_cases h':∃k,k<n∧f k=false
  ·obtain⟨j,O,h2,E⟩:=ih h'
   exact⟨j,by omega,h2,E⟩
  ·refine⟨k,h,I,fun j hj=>?_⟩
   cases hf:f j
   ·exact absurd ⟨j,by omega,hf⟩ h'
   ·rfl
section
variable {P : Program} {ops : Array Oper} {a₀ : List Value} {m : Mem} {v : Nat → Value} {N : Nat → List (Option Blk)}
def JT(listed:Array Bool)(k:Nat):Bool:=listed.getD k false
theorem Xi{listed:Array Bool}{i:Nat}(hi:i<listed.size):JT (listed.setIfInBounds i true)=fun k=>JT listed k||k==i:=by
 funext k
 unfold JT
 by_cases e:k=i
 ·subst e;simp[hi]
 ·have E:(k==i)=false:=by simp[e]
  rw[getD_set_ne false (Ne.symm e),E,qx]
theorem XR{listed:Array Bool}(hsz:listed.size=ops.size){j:Nat}:j∈Region.ready .any ops listed↔j<ops.size∧JT listed j=false∧∃o,ops[j]?=some o∧∀e∈o.after,Region.binds .any e=true→JT listed e.on=true:=by
 rw[mem_ready]
 constructor
 ·rintro⟨E,o,I,h2⟩
  have O:=(qp.1 I).1
  refine⟨O,?_,o,I,h2⟩
  unfold JT
  rw[←E]
  simp[qh,qf (show j<listed.size by omega)]
 ·rintro⟨O,E,o,I,h2⟩
  refine⟨?_,o,I,h2⟩
  unfold JT at E
  rw[←E]
  simp[qh,qf (show j<listed.size by omega)]
theorem ZN{listed:Array Bool}(hsz:listed.size=ops.size)(he:XU ops.toList=true)(h:∃k,k<ops.size∧JT listed k=false):Region.ready .any ops listed≠ []:=by
 obtain⟨k,E,h2,O⟩:=exists_first _ h
 intro I
 have:k∈Region.ready .any ops listed:=(XR hsz).2 ⟨E,h2,ops[k],qf E,fun e hm hb=>O _ (XN he (qf E) hm hb)⟩
 rw[I]at this
 cases this
theorem tail_run{q:Nat}(hq:Qo ops q=true){Q:Exit→List Value→Mem→Prop}{ι₀:Nat→Loc}{m₀:Mem}{w₀:World}:∀(l:List Oper)(k:Nat)(hk:q≤k)(hl:ops.toList.drop k=l)(fuel:Nat)(listed:Array Bool)(hsz:listed.size=ops.size)
 (hlist:∀j,j<ops.size→JT listed j=decide (j<k)) (hfuel:XJ (JT listed) ops.size≤fuel) (a:List Value) (m:Mem),Xs P ops.toList (Q .normal) l a m→∀(ι:Nat→Loc)(act:Act)(w:World),Step ι₀ m₀ w₀ ι m w→ARel m.Has ι a act→Rel ι m w→
 wpAny P .any ops (K9 ι₀ m₀ w₀ Q) fuel listed act w:=by
 have aE:=hq
 simp only[Qo,qk]at hq
 obtain⟨⟨⟨ax,a6⟩,aG⟩,ad⟩:=hq
 intro l
 induction l with
 |nil=>
  intro k hk hl fuel listed hsz hlist hfuel a m h ι act w hs ha hr
  have a2:ops.size≤k:=by
   have:=congrArg List.length hl
   simp at this;omega
  have aj:Region.ready .any ops listed=[]:=by
   apply List.eq_nil_iff_forall_not_mem.2
   intro j hj
   obtain⟨h1,h2,_⟩:=(XR hsz).1 hj
   rw[hlist j h1]at h2
   simp at h2;omega
  have a8:K9 ι₀ m₀ w₀ Q .normal act w:=⟨ι,a,m,h,ha,hr,hs⟩
  cases fuel with
  |zero=>exact⟨aj,a8⟩
  |succ fuel=>exact⟨fun _=>a8,fun i hi=>by rw[aj]at hi;cases hi⟩
 |cons o l ih=>
  intro k hk hl fuel listed hsz hlist hfuel a m h ι act w hs ha hr
  have a2:k<ops.size:=by
   have:=congrArg List.length hl
   simp at this;omega
  have ai:ops[k]?=some o:=by
   have:=congrArg (fun l=>l[0]?) hl
   simpa using this
  have U:JT listed k=false:=by rw[hlist k a2];simp
  have ay:=UR U ops.size a2
  cases fuel with
  |zero=>omega
  |succ fuel=>
   refine⟨fun hn=>absurd hn (ZN hsz a6 ⟨k,a2,U⟩),fun i hi=>?_⟩
   obtain⟨ac,ag,oi,ae,al⟩:=(XR hsz).1 hi
   have ar:i=k:=by
    rw[hlist i ac]at ag
    have aC:k≤i:=by simpa using ag
    rcases qr k i with aw|aM
    ·exfalso
     have hd:Down ops (JT listed):=by
      intro x ox hx ak e hm hb
      have ao:=(qp.1 hx).1
      rw[hlist x ao]at ak
      have aA:=XN a6 hx hm hb
      rw[hlist _ (by omega)]
      simp at ak ⊢;omega
     have:=hd.bef i oi ae al k (Vv ad ac (by omega) aw)
     rw[U]at this;cases this
    ·omega
   subst ar
   rw[ai]at ae;cases ae
   have O:∀(a':List Value)(m':Mem)(κ:Nat→Loc)(Y:Act)(w':World),Xs P ops.toList (Q .normal) l a' m'→Step ι₀ m₀ w₀ κ m' w'→ARel m'.Has κ a' Y→Rel κ m' w'→wpAny P .any ops (K9 ι₀ m₀ w₀ Q) fuel (listed.setIfInBounds i true) Y w':=by
    intro a' m' κ Y w' h' E Z a7
    refine ih (i+1) (by omega) ?_ fuel _ (by simp[hsz]) (fun j hj=>?_) ?_ a' m' h' κ Y w' E Z a7
    ·have:=congrArg (List.drop 1) hl
     simpa using this
    ·rw[Xi (by omega)]
     simp only[hlist j hj]
     by_cases e:j=i
     ·subst e;simp
     ·have ap:(j==i)=false:=by simp[e]
      rw[ap,qx]
      congr 1
      apply propext
      omega
    ·have:=ZP U ops.size a2
     rw[Xi (by omega)]
     omega
   have hy:yielded ops act.tmps=JJ ops.toList a:=funext fun j=>Vc ha ops j
   simp only[Xs]at h
   unfold wpOp
   simp only[ai,hy]
   split at h
   ·rename_i hw
    rw[if_pos hw]
    left
    unfold Oper.wp
    replace h:(∃v m',OSim P ι m w o act v m'∧Xs P ops.toList (Q .normal) l (QT a o.dst v) m')∨(∃k xs R,Xj a o.op=some (k,xs)∧Qf P k=true∧Spec P k xs m R∧∀v m',R v m'→Xs P ops.toList (Q .normal) l (QT a o.dst v) m'):=by
     rcases h with⟨v,m',h1,h2⟩|h|⟨R,h1,h2⟩
     ·exact .inl ⟨v,m',evOp_run hr ha h1,h2⟩
     ·exact .inr h
     ·obtain⟨v,m',h3,h4⟩:=evAny_run hr ha h1
      exact .inl ⟨v,m',h4,h2 v m' h3⟩
    rcases h with⟨v,m',h1,h2⟩|⟨f,xs,R,h1,he,an,h2⟩
    ·obtain⟨v',w',κ,I,hv,a7,E⟩:=h1
     have Z:ARel m'.Has κ (QT a o.dst v) (act.put o.dst v'):=(ha.mono E.grows E.at_).put' o.dst hv
     have:=O _ _ κ _ w' h2 (hs.trans E) Z a7
     rcases I with I|⟨I,rfl⟩
     ·rw[I,Oper.upon_value];exact this
     ·rw[I,Oper.upon_skip];exact this
    ·obtain⟨ys,aq,ah⟩:=Vx ha h1 he
     rw[ah w,Oper.upon_enter]
     refine(an ι w ys aq hr).mono ?_
     rintro e w' ⟨v,v',κ,m',hR,rfl,hv,a7,E⟩
     have Z:ARel m'.Has κ (QT a o.dst v) (act.put o.dst v'):=(ha.mono E.grows E.at_).put' o.dst hv
     exact O _ _ κ _ w' (h2 v m' hR) (hs.trans E) Z a7
   ·rename_i hw
    rw[if_neg hw]
    exact O _ _ ι _ w h hs (ha.put' o.dst Xv) hr
def allS:Nat→Bool:=fun _=>true
theorem head_run{q:Nat}(hq:Qo ops q=true)(hqs:q≤ops.size)(ha₀:∀(t:Nat)(x:Value),a₀[t]?=some x→Cl m.Has x)(hm:∀b x,m.get b=some x→ClBlk m.Has x)
 (hd:∀i o,i<q→ops[i]?=some o→DOp P ops a₀ m v N i o) {Q:Exit→List Value→Mem→Prop} {ι₀:Nat→Loc} {m₀:Mem} {w₀:World}
 (ht:Xs P ops.toList (Q .normal) (ops.toList.drop q) (Jd ops v allS a₀ q) (Jq m N allS q)):∀(fuel:Nat)(listed:Array Bool)(_:listed.size=ops.size)(_:XJ (JT listed) ops.size≤fuel)(κ:Nat→Loc)(act:Act)(w:World),Inv ops a₀ m v N q ι₀ m₀ w₀ (JT listed) κ act w→
 wpAny P .any ops (K9 ι₀ m₀ w₀ Q) fuel listed act w:=by
 have aa:=hq
 simp only[Qo,qk]at hq
 obtain⟨⟨⟨aj,a8⟩,al⟩,a7⟩:=hq
 intro fuel
 induction fuel with
 |zero=>
  intro listed Y O κ act w h
  have E:∀j,j<q→JT listed j=true:=fun j hj=>by
   cases hg:JT listed j
   ·have:=UR hg ops.size (by omega);omega
   ·rfl
  have I:Jq m N (JT listed) q=Jq m N allS q:=by unfold Jq;rw[Zr (T:=allS) q fun k hk=>E k hk]
  have ac:Jd ops v (JT listed) a₀ q=Jd ops v allS a₀ q:=by
   apply qu
   intro t
   exact Q2 t q fun k hk _=>E k hk
  refine tail_run aa _ q (qi _) rfl 0 listed Y (fun j hj=>?_) O _ _ ht κ act w (by rw[←I];exact h.step) (by rw[←I,←ac];exact h.frame) (by rw[←I];exact h.rel)
  rcases qr j q with U|a2
  ·rw[E j U];simp[U]
  ·rw[h.low j a2];simp;omega
 |succ fuel ih=>
  intro listed Y O κ act w h
  by_cases E:∀j,j<q→JT listed j=true
  ·have I:Jq m N (JT listed) q=Jq m N allS q:=by unfold Jq;rw[Zr (T:=allS) q fun k hk=>E k hk]
   have ac:Jd ops v (JT listed) a₀ q=Jd ops v allS a₀ q:=by
    apply qu
    intro t
    exact Q2 t q fun k hk _=>E k hk
   refine tail_run aa _ q (qi _) rfl (fuel+1) listed Y (fun j hj=>?_) O _ _ ht κ act w (by rw[←I];exact h.step) (by rw[←I,←ac];exact h.frame) (by rw[←I];exact h.rel)
   rcases qr j q with U|a2
   ·rw[E j U];simp[U]
   ·rw[h.low j a2];simp;omega
  ·have ai:∃j,j<q∧JT listed j=false:=by
    rcases Classical.em (∃j,j<q∧JT listed j=false)with h'|h'
    ·exact h'
    ·refine absurd (fun j hj=>?_) E
     cases hg:JT listed j
     ·exact absurd ⟨j,hj,hg⟩ h'
     ·rfl
   obtain⟨j,hj,ae⟩:=ai
   refine⟨fun hn=>absurd hn (ZN Y a8 ⟨j,by omega,ae⟩),fun i hi=>?_⟩
   obtain⟨a6,af,oi,ab,Z⟩:=(XR Y).1 hi
   have ah:i<q:=by
    rcases qr i q with U|a2
    ·exact U
    ·exfalso
     have:=h.down.bef i oi ab Z j (Vv a7 a6 a2 (by omega))
     rw[ae]at this;cases this
   refine h.op (QY aa) hqs ha₀ hm ab ah af Z (hd i oi ah ab) fun κ' act' w' h'=>?_
   refine ih _ (by simp[Y]) ?_ κ' act' w' (by rw[Xi (by omega)];exact h')
   have:=ZP af ops.size a6
   rw[Xi (by omega)]
   omega
theorem Zs{κ:Nat→Loc}{w:World}(n:Nat)(h:Rel κ m w):Rel κ (Jq m N (fun _=>false) n) w:=by
 have E:∀b x,(Jq m N (fun _=>false) n).get b=some x→m.get b=some x:=fun b x hb=>by
  rcases(QW _ _ _ _).1 hb with⟨_,I⟩|⟨k,_,I,_⟩
  ·exact I
  ·cases I
 refine⟨fun b ro s cs hb=>?_,fun b x hb=>(h.oth b x (E _ _ hb)).mono (fun c hc=>(JF _ _ _).2 (.inl hc)) fun _ _=>rfl,fun b b' hb hb'=>?_,⟨h.glob.known,fun b ⟨y,hb,O⟩=>h.glob.own b ⟨y,E _ _ hb,O⟩⟩⟩
 ·obtain⟨C,e,fz,I,h2,Y,h4,U,h6⟩:=h.at' b ro s cs (E _ _ hb)
  refine⟨C,e,fz,I,h2,Y,h4,fun i v hi=>?_,h6⟩
  obtain⟨h7,v',Z,h9⟩:=U i v hi
  exact⟨h7,v',Z,h9.mono (fun c hc=>(JF _ _ _).2 (.inl hc)) fun _ _=>rfl⟩
 ·refine h.inj b b' ?_ ?_
  ·obtain⟨x,hx⟩:=qt.1 hb
   rw[E _ _ hx];simp
  ·obtain⟨y,hx,O⟩:=hb'
   exact⟨y,E _ _ hx,O⟩
theorem AW_draw{id:Nat}{Q:Exit→List Value→Mem→Prop}(hmix:P.follows .mixedOrders=true)(q:Nat)(hq:Qo ops q=true)(hqs:q≤ops.size)
 (v:Nat→Value) (N:Nat→List (Option Blk)) (hd:∀i o,i<q→ops[i]?=some o→DOp P ops a₀ m v N i o)
 (ht:Xs P ops.toList (Q .normal) (ops.toList.drop q) (Jd ops v allS a₀ q) (Jq m N allS q)):AW P (.region id ops true) Q a₀ m:=by
 intro ι₀ m₀ w₀ ι act w hs ha E
 refine wp_region_any hmix ?_
 have U:Rel ι m { w with drawn:=w.drawn+1 }:=⟨E.at',E.oth,E.inj,⟨E.glob.known.keep fun _ _=>rfl,E.glob.own⟩⟩
 have a2:Step ι₀ m₀ w₀ ι m { w with drawn:=w.drawn+1 }:=⟨hs.os,hs.tape,hs.output,hs.size,hs.grows,hs.at_,hs.block,hs.own⟩
 have Z:∀(t:Nat)(x:Value),a₀[t]?=some x→Cl m.Has x:=fun t x hx=>by
  obtain⟨y,_,O⟩:=ha.tmps.get hx
  exact O.cl
 have Y:=E.clBlk
 have I:JT (qF ops.size false)=fun _=>false:=by
  funext k
  unfold JT
  rw[qh,qw]
  split<;>rfl
 have a6:∀n,Jd ops v (fun _=>false) a₀ n=a₀:=by
  intro n
  induction n with
  |zero=>rfl
  |succ n ih=>simp[Jd,ih]
 refine head_run hq hqs Z Y hd ht ops.size _ (by simp) (by rw[I,VY];exact qi _) ι act _ ?_
 rw[I]
 refine⟨fun k o _ h=>absurd h (by simp),fun _ _=>rfl,?_,Zs q U,?_,fun k _ h=>absurd h (by simp),fun k _ h=>absurd h (by simp)⟩
 ·rw[a6]
  exact ha.mono (fun c hc=>(JF _ _ _).2 (.inl hc)) fun _ _=>rfl
 ·refine a2.trans ⟨rfl,rfl,rfl,qi _,fun b hb=>(JF _ _ _).2 (.inl hb),fun _ _=>rfl,fun _ _ _=>rfl,fun b hb=>.inr ⟨b,?_,rfl⟩⟩
  obtain⟨y,hx,O⟩:=hb
  rcases(QW _ _ _ _).1 hx with⟨_,h1⟩|⟨k,_,h1,_⟩
  ·exact⟨y,h1,O⟩
  ·cases h1
end
end
section
variable [Defs]
section
variable {P : Program} {ops : Array Oper} {a₀ : List Value} {m : Mem} {v : Nat → Value} {N : Nat → List (Option Blk)}
def drawOK2(ops:Array Oper)(q:Nat):Bool:=
 Qo ops (q+1)&&qq q ops.size&&(qH q).all (fun j=>B ops q j||match ops[j]? with
  |some o=>still o.op&&o.guard.isNone
  |none=>false)&&match ops[q]? with
  |some o=>noCall o.op&&o.guard.isNone
  |none=>false
theorem drawOK2_spec{q:Nat}(h:drawOK2 ops q=true):Qo ops (q+1)=true∧q<ops.size∧(∀j o,j<q→ops[j]?=some o→B ops q j=false→still o.op=true∧o.guard=none)∧∃oq,ops[q]?=some oq∧noCall oq.op=true∧oq.guard=none:=by
 simp only[drawOK2,qk]at h
 obtain⟨⟨⟨I,h2⟩,O⟩,E⟩:=h
 refine⟨I,qo h2,fun j o hj ho hb=>?_,?_⟩
 ·have:=qv.1 O j (qC.2 hj)
  rw[hb,ho]at this
  simpa using this
 ·cases ho:ops[q]? with
  |none=>rw[ho]at E;cases E
  |some oq=>
   rw[ho]at E
   simp only[qk,Option.isNone_iff_eq_none]at E
   exact⟨oq,rfl,E.1,E.2⟩
theorem newsAt_nil{S T:Nat→Bool}:∀n,(∀k,k<n→S k=T k∨N k=[])→Q7 N S n=Q7 N T n
 |0,_=>rfl
 |n+1,h=>by
  simp only[Q7]
  rw[newsAt_nil n fun k hk=>h k (by omega)]
  rcases h n (by omega)with e|e
  ·rw[e]
  ·rw[e];rfl
theorem slot_of{q:Nat}(hap:Xt ops (befM ops.toList) q=true)(hqs:q≤ops.size){S:Nat→Bool}(hdown:Down ops S){i:Nat}{o:Oper}(hi:ops[i]?=some o)(hiq:i<q)(hS:S i=false)
 (hsub:∀j,B ops i j=true→S j=true):∀t,t∈o.looksAt ops→(Jd ops v S a₀ q)[t]?=(Uf ops a₀ v i)[t]?:=by
 have O:∀t,t∈o.looksAt ops→∀k,k<q→(ops[k]?).bind (·.dst)=some t→S k=true→k<i∧B ops i k=true:=by
  intro t Z k Y E I
  cases hok:ops[k]? with
  |none=>rw[hok]at E;cases E
  |some ok=>
   rw[hok]at E
   simp only[Option.bind_some]at E
   rcases qy k i with U|a6|a2
   ·refine⟨U,?_⟩
    cases hb:B ops i k
    ·exact absurd Z ((Oper.apart_spec (Qq hap U hiq hok hi hb)).1 t E)
    ·rfl
   ·subst a6;rw[I]at hS;cases hS
   ·exfalso
    cases hb:B ops k i
    ·exact absurd Z ((Oper.apart_spec (Qq hap a2 Y hi hok hb)).2.2 t E)
    ·have:=hdown.bef k ok hok (hdown k ok hok I) i hb
     rw[hS]at this;cases this
 intro t Z
 have e1:(Jd ops v S a₀ q)[t]?=(Jd ops v (fun k=>B ops i k&&decide (k<i)) a₀ q)[t]?:=Q2 t q fun k Y E=>by
  cases I:S k
  ·cases hb:B ops i k
   ·simp
   ·rw[hsub k hb]at I;cases I
  ·obtain⟨h1,h2⟩:=O t Z k Y E I
   simp[h1,h2]
 rw[e1,Zz (i:=i) q (by omega) (fun k h1 _=>by simp;omega)]
 exact Q2 t i fun k Y _=>by simp[Y]
theorem UW{o:Oper}{a b:List Value}(h:∀t,t∈o.looksAt ops→a[t]?=b[t]?):∀x∈o.op.operands,JD a x=JD b x:=by
 intro x hx
 cases x with
 |tmp t=>
  simp only[JD]
  refine h t ?_
  simp only[Oper.looksAt,List.mem_append,List.mem_filterMap]
  exact .inl ⟨.tmp t,by simpa using hx,rfl⟩
 |_=>rfl
theorem U7{o:Oper}(h:o.guard=none)(f:Nat→Option Bool):Region.wanted o f=true:=by unfold Region.wanted;rw[h]
theorem left_none{f:Nat→Bool}{n:Nat}(h:XJ f n≤0):∀j,j<n→f j=true:=fun j hj=>by
 cases hg:f j
 ·have:=UR hg n hj;omega
 ·rfl
def Idle(P:Program)(ops:Array Oper)(a₀:List Value)(v:Nat→Value)(M':Mem)(i:Nat)(o:Oper):Prop:=
 if Region.wanted o (JJ ops.toList (Uf ops a₀ v i))=true then Jz P o.op (Uf ops a₀ v i) M'=some (v i,M')else v i=undef
theorem Idle.free{M':Mem}{i:Nat}{o:Oper}(hg:o.guard=none)(h:Jz P o.op (Uf ops a₀ v i) M'=some (v i,M')):Idle P ops a₀ v M' i o:=by
 unfold Idle
 rw[if_pos (U7 hg _)]
 exact h
theorem mid_run{q:Nat}(hq:Qo ops (q+1)=true)(hqs:q<ops.size){oq:Oper}(hoq:ops[q]?=some oq)
 {Q:Exit→List Value→Mem→Prop} {ι₀:Nat→Loc} {m₀:Mem} {w₀:World} {vq:Value} {M':Mem}
 (hst:∀i o,i<q→ops[i]?=some o→B ops q i=false→Idle P ops a₀ v M' i o)
 (ht:Xs P ops.toList (Q .normal) (ops.toList.drop (q+1)) (QT (Jd ops v allS a₀ q) oq.dst vq) M'):∀(fuel:Nat)(listed:Array Bool)(_:listed.size=ops.size)(_:XJ (JT listed) ops.size≤fuel)
 (_:Down ops (JT listed)) (_:JT listed q=true) (_:∀j,q<j→JT listed j=false) (κ:Nat→Loc) (act:Act) (w:World),
 ARel M'.Has κ (QT (Jd ops v (JT listed) a₀ q) oq.dst vq) act→Rel κ M' w→Step ι₀ m₀ w₀ κ M' w→wpAny P .any ops (K9 ι₀ m₀ w₀ Q) fuel listed act w:=by
 have aE:=hq
 simp only[Qo,qk]at hq
 obtain⟨⟨⟨aG,ap⟩,ar⟩,an⟩:=hq
 have am:Xt ops (befM ops.toList) q=true:=by
  simp only[Xt,qk]at ar
  exact ar.1
 have done:∀(fuel:Nat)(listed:Array Bool)(_:listed.size=ops.size)(_:XJ (JT listed) ops.size≤fuel)(_:JT listed q=true)(_:∀j,q<j→JT listed j=false)(κ:Nat→Loc)(act:Act)(w:World),
  ARel M'.Has κ (QT (Jd ops v (JT listed) a₀ q) oq.dst vq) act→Rel κ M' w→Step ι₀ m₀ w₀ κ M' w→(∀j,j<q→JT listed j=true)→wpAny P .any ops (K9 ι₀ m₀ w₀ Q) fuel listed act w:=by
  intro fuel listed U I Y a8 κ act w ha hr hs a2
  have aF:Jd ops v (JT listed) a₀ q=Jd ops v allS a₀ q:=by
   apply qu
   intro t
   exact Q2 t q fun k hk _=>a2 k hk
  rw[aF]at ha
  refine tail_run aE _ (q+1) (qi _) rfl fuel listed U (fun j hj=>?_) I _ _ ht κ act w hs ha hr
  rcases qy j q with h|h|h
  ·rw[a2 j h];simp;omega
  ·subst h;rw[Y];simp
  ·rw[a8 j h];simp;omega
 intro fuel
 induction fuel with
 |zero=>
  intro listed U I E Y a8 κ act w ha hr hs
  exact done 0 listed U I Y a8 κ act w ha hr hs fun j hj=>left_none I j (by omega)
 |succ fuel ih=>
  intro listed U I E Y a8 κ act w ha hr hs
  by_cases a2:∀j,j<q→JT listed j=true
  ·exact done (fuel+1) listed U I Y a8 κ act w ha hr hs a2
  ·have aD:∃j,j<q∧JT listed j=false:=by
    rcases Classical.em (∃j,j<q∧JT listed j=false)with h'|h'
    ·exact h'
    ·refine absurd (fun j hj=>?_) a2
     cases hg:JT listed j
     ·exact absurd ⟨j,hj,hg⟩ h'
     ·rfl
   obtain⟨j,hj,aw⟩:=aD
   refine⟨fun hn=>absurd hn (ZN U ap ⟨j,by omega,aw⟩),fun i hi=>?_⟩
   obtain⟨ak,a7,oi,O,a6⟩:=(XR U).1 hi
   have aj:i<q:=by
    rcases qy i q with h|h|h
    ·exact h
    ·subst h;rw[Y]at a7;cases a7
    ·exfalso
     have:=E.bef i oi O a6 j (Vv an ak (by omega) (by omega))
     rw[aw]at this;cases this
   have ax:B ops q i=false:=by
    cases hb:B ops q i
    ·rfl
    ·have:=E.bef q oq hoq (E q oq hoq Y) i hb
     rw[a7]at this;cases this
   have hI:=hst i oi aj O ax
   have al:=Oper.apart_spec (Qq ar aj (Nat.lt_succ_self q) O hoq ax)
   have az:∀k,B ops i k=true→JT listed k=true:=fun k hk=>E.bef i oi O a6 k hk
   have av:∀t,t∈oi.looksAt ops→(QT (Jd ops v (JT listed) a₀ q) oq.dst vq)[t]?=(Uf ops a₀ v i)[t]?:=fun t htl=>by
    rw[aPut_get _ _ _ _ (fun e=>al.2.2 t e htl)]
    exact slot_of am (by omega) E O aj a7 az t htl
   have hw:Region.wanted oi (yielded ops act.tmps)=Region.wanted oi (JJ ops.toList (Uf ops a₀ v i)):=by
    refine Zo oi fun g b hg=>?_
    rw[Vc ha ops g]
    unfold JJ
    simp only[qz]
    cases hog:ops[g]? with
    |none=>rfl
    |some og=>
     cases hdg:og.dst with
     |none=>simp[hdg]
     |some t=>
      simp only[hdg]
      rw[av t (by simp[Oper.looksAt,hg,hog,hdg])]
   have ac:=Xi (listed:=listed) (i:=i) (by omega)
   have ao:∀(κ':Nat→Loc)(v':Value)(w':World),VRel M'.Has κ' (v i) v'→Rel κ' M' w'→Step κ M' w κ' M' w'→wpAny P .any ops (K9 ι₀ m₀ w₀ Q) fuel (listed.setIfInBounds i true) (act.put oi.dst v') w':=by
    intro κ' v' w' hv ai aa
    have au:ARel M'.Has κ' (QT (QT (Jd ops v (JT listed) a₀ q) oq.dst vq) oi.dst (v i)) (act.put oi.dst v'):=(ha.mono aa.grows aa.at_).put' oi.dst hv
    refine ih _ (by simp[U]) ?_ ?_ ?_ (fun k hk=>?_) κ' _ w' ?_ ai (hs.trans aa)
    ·have:=ZP a7 ops.size ak
     rw[ac]
     omega
    ·rw[ac]
     intro k ok hk ag e he hb
     simp only[qj,beq_iff_eq]at ag ⊢
     rcases ag with ag|rfl
     ·exact .inl (E k ok hk ag e he hb)
     ·rw[O]at hk;cases hk
      exact .inl (a6 e he hb)
    ·rw[ac];simp[Y]
    ·rw[ac]
     have:(k==i)=false:=by simp;omega
     simp[a8 k hk,this]
    ·rw[ac,frameAt_add a7 q aj fun k h2 h3 hk t ht' hkt=>?_]
     ·rw[O]
      simp only[Option.bind_some]
      rw[aPut_comm _ _ _ _ _ (fun t e1 e2=>al.2.1 t e2 e1)]at au
      exact au
     ·have ae:ops[k]?=some ops[k]:=qf (by omega)
      rw[O]at ht'
      rw[ae]at hkt
      cases hb:B ops k i
      ·exact(Oper.apart_spec (Qq am h2 h3 O ae hb)).2.1 t ht' hkt
      ·have:=E.bef k _ ae (E k _ ae hk) i hb
       rw[a7]at this;cases this
   unfold wpOp
   simp only[O]
   rw[hw]
   unfold Idle at hI
   split
   ·rename_i hwant
    rw[if_pos hwant]at hI
    have h1:Jz P oi.op (QT (Jd ops v (JT listed) a₀ q) oq.dst vq) M'=some (v i,M'):=by
     rw[Zf P oi.op M' (UW av)]
     exact hI
    obtain⟨v',w',κ',Z,hv,ai,aa⟩:=evOp_run hr ha h1
    left
    unfold Oper.wp
    rcases Z with Z|⟨Z,rfl⟩
    ·rw[Z,Oper.upon_value];exact ao κ' v' w' hv ai aa
    ·rw[Z,Oper.upon_skip];exact ao κ' _ w' hv ai aa
   ·rename_i hwant
    rw[if_neg hwant]at hI
    exact ao κ _ w (by rw[hI];exact Xv) hr (.refl _ _ _)
theorem head_run2R{q:Nat}(hq:Qo ops (q+1)=true)(hqs:q<ops.size){oq:Oper}(hoq:ops[q]?=some oq)(hgq:oq.guard=none)(ha₀:∀(t:Nat)(x:Value),a₀[t]?=some x→Cl m.Has x)(hm:∀b x,m.get b=some x→ClBlk m.Has x)
 (hd:∀i o,i<q→ops[i]?=some o→DOp P ops a₀ m v N i o)
 {Q:Exit→List Value→Mem→Prop} {ι₀:Nat→Loc} {m₀:Mem} {w₀:World} {R:Value→Mem→Prop}
 (hN:∀i o,i<q→ops[i]?=some o→B ops q i=false→N i=[])
 (hevq:OpSim P oq (Jd ops v allS a₀ q) (Jq m N allS q) R)
 (hall':∀vq M',R vq M'→(∀i o,i<q→ops[i]?=some o→B ops q i=false→Idle P ops a₀ v M' i o)∧
  Xs P ops.toList (Q .normal) (ops.toList.drop (q+1)) (QT (Jd ops v allS a₀ q) oq.dst vq) M'):∀(fuel:Nat)(listed:Array Bool)(_:listed.size=ops.size)(_:XJ (JT listed) ops.size≤fuel)(κ:Nat→Loc)(act:Act)(w:World),Inv ops a₀ m v N q ι₀ m₀ w₀ (JT listed) κ act w→
 wpAny P .any ops (K9 ι₀ m₀ w₀ Q) fuel listed act w:=by
 have an:=hq
 have ao:=Zk (QY hq)
 simp only[Qo,qk]at hq
 obtain⟨⟨⟨ar,ad⟩,ap⟩,ab⟩:=hq
 intro fuel
 induction fuel with
 |zero=>
  intro listed U a2 κ act w h
  have:=left_none a2 q hqs
  rw[h.low q (qi _)]at this
  cases this
 |succ fuel ih=>
  intro listed U a2 κ act w h
  have ag:=h.low q (qi _)
  refine⟨fun hn=>absurd hn (ZN U ad ⟨q,hqs,ag⟩),fun i hi=>?_⟩
  obtain⟨Y,ac,oi,a7,E⟩:=(XR U).1 hi
  rcases qy i q with ae|rfl|ae
  ·refine h.op ao (by omega) ha₀ hm a7 ae ac E (hd i oi ae a7) fun κ' act' w' h'=>?_
   refine ih _ (by simp[U]) ?_ κ' act' w' (by rw[Xi (by omega)];exact h')
   have:=ZP ac ops.size Y
   rw[Xi (by omega)]
   omega
  ·rw[hoq]at a7;cases a7
   have ah:∀k,B ops i k=true→JT listed k=true:=fun k I=>h.down.bef i oq hoq E k I
   have Z:∀k,k<i→JT listed k=false→B ops i k=false:=fun k I hf=>by
    cases hb:B ops i k
    ·rfl
    ·rw[ah k hb]at hf;cases hf
   have a6:Jq m N (JT listed) i=Jq m N allS i:=by
    unfold Jq
    rw[newsAt_nil (T:=allS) i fun k I=>?_]
    cases hf:JT listed k
    ·exact .inr (hN k _ I (qf (by omega)) (Z k I hf))
    ·exact .inl rfl
   have al:∀t,t∈oq.looksAt ops→(Jd ops v (JT listed) a₀ i)[t]?=(Jd ops v allS a₀ i)[t]?:=fun t htl=>Q2 t i fun k I hdst=>by
    cases hf:JT listed k
    ·exfalso
     have af:ops[k]?=some ops[k]:=qf (by omega)
     rw[af]at hdst
     exact(Oper.apart_spec (Qq ap I (Nat.lt_succ_self i) af hoq (Z k I hf))).1 t hdst htl
    ·rfl
   unfold wpOp
   simp only[hoq]
   rw[U7 hgq]
   left
   refine hevq (Jd ops v (JT listed) a₀ i) κ act act w _ _ (fun x hx=>(UW (o:=oq) al x hx).symm) (by rw[←a6];exact h.frame) (by rw[←a6];exact h.rel) rfl ?_
   intro vq M' v' w' κ' hR hv aq a8
   rw[←a6]at a8
   obtain⟨am,ht⟩:=hall' vq M' hR
   have ak:ARel M'.Has κ' (QT (Jd ops v (JT listed) a₀ i) oq.dst vq) (act.put oq.dst v'):=(h.frame.mono a8.grows a8.at_).put' oq.dst hv
   have O:=Xi (listed:=listed) (i:=i) (by omega)
   have aj:wpAny P .any ops (K9 ι₀ m₀ w₀ Q) fuel (listed.setIfInBounds i true) (act.put oq.dst v') w':=by
    refine mid_run an hqs hoq am ht fuel _ (by simp[U]) ?_ ?_ ?_ (fun k I=>?_) κ' _ w' ?_ aq (h.step.trans a8)
    ·have:=ZP ac ops.size Y
     rw[O]
     omega
    ·rw[O]
     intro k ok I aa e he hb
     simp only[qj,beq_iff_eq]at aa ⊢
     rcases aa with aa|rfl
     ·exact .inl (h.down k ok I aa e he hb)
     ·rw[hoq]at I;cases I
      exact .inl (E e he hb)
    ·rw[O];simp
    ·rw[O]
     have:(k==i)=false:=by simp;omega
     simp[h.low k (by omega),this]
    ·have:Jd ops v (JT (listed.setIfInBounds i true)) a₀ i=Jd ops v (JT listed) a₀ i:=by
      apply qu
      intro t
      refine Q2 t i fun k I _=>?_
      rw[O]
      have:(k==i)=false:=by simp;omega
      simp[this]
     rw[this]
     exact ak
   exact aj
  ·exfalso
   have:=h.down.bef i oi a7 E q (Vv ab Y (by omega) (by omega))
   rw[ag]at this;cases this
theorem head_run2{q:Nat}(hq:Qo ops (q+1)=true)(hqs:q<ops.size){oq:Oper}(hoq:ops[q]?=some oq)(hgq:oq.guard=none)(ha₀:∀(t:Nat)(x:Value),a₀[t]?=some x→Cl m.Has x)(hm:∀b x,m.get b=some x→ClBlk m.Has x)
 (hd:∀i o,i<q→ops[i]?=some o→DOp P ops a₀ m v N i o)
 {Q:Exit→List Value→Mem→Prop} {ι₀:Nat→Loc} {m₀:Mem} {w₀:World} {vq:Value} {M':Mem}
 (hst:∀i o,i<q→ops[i]?=some o→B ops q i=false→o.guard=none∧Jz P o.op (Uf ops a₀ v i) M'=some (v i,M')∧N i=[])
 (hevq:Jz P oq.op (Jd ops v allS a₀ q) (Jq m N allS q)=some (vq,M'))
 (ht:Xs P ops.toList (Q .normal) (ops.toList.drop (q+1)) (QT (Jd ops v allS a₀ q) oq.dst vq) M'):∀(fuel:Nat)(listed:Array Bool)(_:listed.size=ops.size)(_:XJ (JT listed) ops.size≤fuel)(κ:Nat→Loc)(act:Act)(w:World),Inv ops a₀ m v N q ι₀ m₀ w₀ (JT listed) κ act w→
 wpAny P .any ops (K9 ι₀ m₀ w₀ Q) fuel listed act w:=by
 exact head_run2R hq hqs hoq hgq ha₀ hm hd (fun i o hi ho hb=>(hst i o hi ho hb).2.2) (OpSim.op (R:=fun u M=>u=vq∧M=M') hevq ⟨rfl,rfl⟩) (fun u M ⟨h1,h2⟩=>by subst h1;subst h2;exact⟨fun i o hi ho hb=>.free (hst i o hi ho hb).1 (hst i o hi ho hb).2.1,ht⟩)
theorem AW_draw6{id:Nat}{Q:Exit→List Value→Mem→Prop}(hmix:P.follows .mixedOrders=true)(q:Nat)(hq1:Qo ops (q+1)=true)(hqs:q<ops.size){oq:Oper}(hoq:ops[q]?=some oq)(hgq:oq.guard=none)
 (v:Nat→Value) (N:Nat→List (Option Blk)) (hd:∀i o,i<q→ops[i]?=some o→DOp P ops a₀ m v N i o) {R:Value→Mem→Prop}
 (hN:∀i o,i<q→ops[i]?=some o→B ops q i=false→N i=[])
 (hevq:OpSim P oq (Jd ops v allS a₀ q) (Jq m N allS q) R)
 (hall':∀vq M',R vq M'→(∀i o,i<q→ops[i]?=some o→B ops q i=false→Idle P ops a₀ v M' i o)∧
  Xs P ops.toList (Q .normal) (ops.toList.drop (q+1)) (QT (Jd ops v allS a₀ q) oq.dst vq) M'):AW P (.region id ops true) Q a₀ m:=by
 intro ι₀ m₀ w₀ ι act w hs ha E
 refine wp_region_any hmix ?_
 have U:Rel ι m { w with drawn:=w.drawn+1 }:=⟨E.at',E.oth,E.inj,⟨E.glob.known.keep fun _ _=>rfl,E.glob.own⟩⟩
 have a2:Step ι₀ m₀ w₀ ι m { w with drawn:=w.drawn+1 }:=⟨hs.os,hs.tape,hs.output,hs.size,hs.grows,hs.at_,hs.block,hs.own⟩
 have Z:∀(t:Nat)(x:Value),a₀[t]?=some x→Cl m.Has x:=fun t x hx=>by
  obtain⟨y,_,O⟩:=ha.tmps.get hx
  exact O.cl
 have Y:=E.clBlk
 have I:JT (qF ops.size false)=fun _=>false:=by
  funext k
  unfold JT
  rw[qh,qw]
  split<;>rfl
 have a6:∀n,Jd ops v (fun _=>false) a₀ n=a₀:=by
  intro n
  induction n with
  |zero=>rfl
  |succ n ih=>simp[Jd,ih]
 refine head_run2R hq1 hqs hoq hgq Z Y hd hN hevq hall' ops.size _ (by simp) (by rw[I,VY];exact qi _) ι act _ ?_
 rw[I]
 refine⟨fun k o _ h=>absurd h (by simp),fun _ _=>rfl,?_,Zs q U,?_,fun k _ h=>absurd h (by simp),fun k _ h=>absurd h (by simp)⟩
 ·rw[a6]
  exact ha.mono (fun c hc=>(JF _ _ _).2 (.inl hc)) fun _ _=>rfl
 ·refine a2.trans ⟨rfl,rfl,rfl,qi _,fun b hb=>(JF _ _ _).2 (.inl hb),fun _ _=>rfl,fun _ _ _=>rfl,fun b hb=>.inr ⟨b,?_,rfl⟩⟩
  obtain⟨y,hx,O⟩:=hb
  rcases(QW _ _ _ _).1 hx with⟨_,h1⟩|⟨k,_,h1,_⟩
  ·exact⟨y,h1,O⟩
  ·cases h1
theorem AW_draw4{id:Nat}{Q:Exit→List Value→Mem→Prop}(hmix:P.follows .mixedOrders=true)(q:Nat)(hq1:Qo ops (q+1)=true)(hqs:q<ops.size){oq:Oper}(hoq:ops[q]?=some oq)(hgq:oq.guard=none)
 (v:Nat→Value) (N:Nat→List (Option Blk)) (hd:∀i o,i<q→ops[i]?=some o→DOp P ops a₀ m v N i o) {vq:Value} {M':Mem}
 (hst:∀i o,i<q→ops[i]?=some o→B ops q i=false→o.guard=none∧Jz P o.op (Uf ops a₀ v i) M'=some (v i,M')∧N i=[])
 (hevq:Jz P oq.op (Jd ops v allS a₀ q) (Jq m N allS q)=some (vq,M'))
 (ht:Xs P ops.toList (Q .normal) (ops.toList.drop (q+1)) (QT (Jd ops v allS a₀ q) oq.dst vq) M'):AW P (.region id ops true) Q a₀ m:=by
 intro ι₀ m₀ w₀ ι act w hs ha E
 refine wp_region_any hmix ?_
 have U:Rel ι m { w with drawn:=w.drawn+1 }:=⟨E.at',E.oth,E.inj,⟨E.glob.known.keep fun _ _=>rfl,E.glob.own⟩⟩
 have a2:Step ι₀ m₀ w₀ ι m { w with drawn:=w.drawn+1 }:=⟨hs.os,hs.tape,hs.output,hs.size,hs.grows,hs.at_,hs.block,hs.own⟩
 have Z:∀(t:Nat)(x:Value),a₀[t]?=some x→Cl m.Has x:=fun t x hx=>by
  obtain⟨y,_,O⟩:=ha.tmps.get hx
  exact O.cl
 have Y:=E.clBlk
 have I:JT (qF ops.size false)=fun _=>false:=by
  funext k
  unfold JT
  rw[qh,qw]
  split<;>rfl
 have a6:∀n,Jd ops v (fun _=>false) a₀ n=a₀:=by
  intro n
  induction n with
  |zero=>rfl
  |succ n ih=>simp[Jd,ih]
 refine head_run2 hq1 hqs hoq hgq Z Y hd hst hevq ht ops.size _ (by simp) (by rw[I,VY];exact qi _) ι act _ ?_
 rw[I]
 refine⟨fun k o _ h=>absurd h (by simp),fun _ _=>rfl,?_,Zs q U,?_,fun k _ h=>absurd h (by simp),fun k _ h=>absurd h (by simp)⟩
 ·rw[a6]
  exact ha.mono (fun c hc=>(JF _ _ _).2 (.inl hc)) fun _ _=>rfl
 ·refine a2.trans ⟨rfl,rfl,rfl,qi _,fun b hb=>(JF _ _ _).2 (.inl hb),fun _ _=>rfl,fun _ _ _=>rfl,fun b hb=>.inr ⟨b,?_,rfl⟩⟩
  obtain⟨y,hx,O⟩:=hb
  rcases(QW _ _ _ _).1 hx with⟨_,h1⟩|⟨k,_,h1,_⟩
  ·exact⟨y,h1,O⟩
  ·cases h1
theorem AW_draw2{id:Nat}{Q:Exit→List Value→Mem→Prop}(hmix:P.follows .mixedOrders=true)(q:Nat)(hq:drawOK2 ops q=true)
 (v:Nat→Value) (N:Nat→List (Option Blk)) (hd:∀i o,i<q→ops[i]?=some o→DOp P ops a₀ m v N i o)
 (hst:∀i o,i<q→ops[i]?=some o→still o.op=true→o.guard=none→Jz P o.op (Uf ops a₀ v i) (Xa ops m N i)=some (v i,Xa ops m N i)∧N i=[])
 (ht:Xs P ops.toList (Q .normal) (ops.toList.drop q) (Jd ops v allS a₀ q) (Jq m N allS q)):AW P (.region id ops true) Q a₀ m:=by
 obtain⟨a8,a2,E,oq,O,Y,Z⟩:=drawOK2_spec hq
 have I:ops.toList.drop q=oq::ops.toList.drop (q+1):=by
  have ab:q<ops.toList.length:=by simpa using a2
  rw[List.drop_eq_getElem_cons ab]
  congr 1
  have:=(qp.1 O).2
  simpa using this
 rw[I]at ht
 simp only[Xs,U7 Z,if_true,noCall_ev Y]at ht
 obtain⟨vq,M',U,ht⟩:∃vq M',Jz P oq.op (Jd ops v allS a₀ q) (Jq m N allS q)=some (vq,M')∧Xs P ops.toList (Q .normal) (ops.toList.drop (q+1)) (QT (Jd ops v allS a₀ q) oq.dst vq) M':=by
  rcases ht with⟨vq,M',h1,h2⟩|⟨_,_,_,h,_⟩|⟨_,h,_⟩
  ·exact⟨vq,M',h1,h2⟩
  ·cases h
  ·rw[noAny_ev Y]at h;cases h
 refine AW_draw4 hmix q a8 a2 O Z v N hd (fun i o hi ho hb=>?_) U ht
 obtain⟨h1,h2⟩:=E i o hi ho hb
 obtain⟨h3,h4⟩:=hst i o hi ho h1 h2
 exact⟨h2,(still_ev h1 h3).2 M',h4⟩
end
end
section
variable [Defs]
section
variable {P : Program} {ops : Array Oper} {a₀ : List Value} {m : Mem} {v : Nat → Value} {N : Nat → List (Option Blk)}
def barOK(ops:Array Oper)(b:Nat):Bool:=(qH ops.size).all fun k=>qq k b||(qH b).all fun j=>B ops k j
def seqOK(ops:Array Oper)(q b:Nat):Bool:=(qH b).all fun k=>qq k q||(qH k).all fun j=>B ops k j
theorem barOK_spec{b:Nat}(h:barOK ops b=true){k j:Nat}(hk:k<ops.size)(hb:b≤k)(hj:j<b):B ops k j=true:=by
 have:=qv.1 h k (qC.2 hk)
 rw[qj]at this
 rcases this with E|E
 ·have:=qo E;omega
 ·exact qv.1 E j (qC.2 hj)
theorem seqOK_spec{q b:Nat}(h:seqOK ops q b=true){k j:Nat}(hk:k<b)(hq:q≤k)(hj:j<k):B ops k j=true:=by
 have:=qv.1 h k (qC.2 hk)
 rw[qj]at this
 rcases this with E|E
 ·have:=qo E;omega
 ·exact qv.1 E j (qC.2 hj)
def phaseOK(ops:Array Oper)(b q b':Nat):Bool:=Xz ops q&&seqOK ops q b'&&barOK ops b'&&qG b q&&qG q b'&&qG b' ops.size
theorem phaseOK_spec{b q b':Nat}(h:phaseOK ops b q b'=true):Xz ops q=true∧seqOK ops q b'=true∧barOK ops b'=true∧b≤q∧q≤b'∧b'≤ops.size:=by
 simp only[phaseOK,qk]at h
 obtain⟨⟨⟨⟨⟨Y,h2⟩,I⟩,U⟩,E⟩,O⟩:=h
 exact⟨Y,h2,I,qo U,qo E,qo O⟩
def From(P:Program)(ops:Array Oper)(Q:Exit→List Value→Mem→Prop)(b:Nat)(a:List Value)(m:Mem):Prop:=
 ∀(ι₀:Nat→Loc)(m₀:Mem)(w₀:World)(fuel:Nat)(listed:Array Bool)(_:listed.size=ops.size)(_:XJ (JT listed) ops.size≤fuel)(_:∀j,j<ops.size→JT listed j=decide (j<b))(ι:Nat→Loc)(act:Act)(w:World),
  Step ι₀ m₀ w₀ ι m w→ARel m.Has ι a act→Rel ι m w→wpAny P .any ops (K9 ι₀ m₀ w₀ Q) fuel listed act w
theorem From_end{Q:Exit→List Value→Mem→Prop}{b:Nat}{a:List Value}{m:Mem}(hb:ops.size≤b)(h:Q .normal a m):From P ops Q b a m:=by
 intro ι₀ m₀ w₀ O I Z a2 U ι act w hs ha hr
 have Y:Region.ready .any ops I=[]:=by
  apply List.eq_nil_iff_forall_not_mem.2
  intro j hj
  obtain⟨h1,h2,_⟩:=(XR Z).1 hj
  rw[U j h1]at h2
  simp at h2;omega
 have E:K9 ι₀ m₀ w₀ Q .normal act w:=⟨ι,a,m,h,ha,hr,hs⟩
 cases O with
 |zero=>exact⟨Y,E⟩
 |succ O=>exact⟨fun _=>E,fun i hi=>by rw[Y]at hi;cases hi⟩
theorem tail_to{q b':Nat}(hback:XU ops.toList=true)(hseq:seqOK ops q b'=true)(hbar:barOK ops b'=true)(hb':b'≤ops.size){Q:Exit→List Value→Mem→Prop}:∀(l:List Oper)(k:Nat)(_:q≤k)(_:k≤b')(_:(ops.toList.drop k).take (b'-k)=l)(a:List Value)(m:Mem),
 Xs P ops.toList (From P ops Q b') l a m→From P ops Q k a m:=by
 intro l
 induction l with
 |nil=>
  intro k hk an hl a m h
  have:k=b':=by
   have:=congrArg List.length hl
   simp at this;omega
  subst this
  exact h
 |cons o l ih=>
  intro k hk an hl a m h ι₀ m₀ w₀ a6 O ac ar E ι act w hs ha hr
  have av:k<b':=by
   have:=congrArg List.length hl
   simp at this;omega
  have ah:ops[k]?=some o:=by
   have:=congrArg (fun l=>l[0]?) hl
   simp only[List.getElem?_cons_zero,List.getElem?_take,List.getElem?_drop,qz,Nat.add_zero]at this
   rwa [if_pos (by omega)]at this
  have Z:JT O k=false:=by rw[E k (by omega)];simp
  have ay:=UR Z ops.size (by omega)
  cases a6 with
  |zero=>omega
  |succ a6=>
   refine⟨fun hn=>absurd hn (ZN ac hback ⟨k,by omega,Z⟩),fun i hi=>?_⟩
   obtain⟨a8,af,oi,ae,aj⟩:=(XR ac).1 hi
   have au:i=k:=by
    rw[E i a8]at af
    have aC:k≤i:=by simpa using af
    rcases qr k i with ax|aK
    ·exfalso
     have hd:Down ops (JT O):=by
      intro x ox hx ai e hm hb
      have ao:=(qp.1 hx).1
      rw[E x ao]at ai
      have aA:=XN hback hx hm hb
      rw[E _ (by omega)]
      simp at ai ⊢;omega
     have hB:B ops i k=true:=by
      rcases qr i b' with h1|h1
      ·exact seqOK_spec hseq h1 (by omega) ax
      ·exact barOK_spec hbar a8 h1 av
     have:=hd.bef i oi ae aj k hB
     rw[Z]at this;cases this
    ·omega
   subst au
   rw[ah]at ae;cases ae
   have Y:∀(a':List Value)(m':Mem)(κ:Nat→Loc)(a2:Act)(w':World),Xs P ops.toList (From P ops Q b') l a' m'→Step ι₀ m₀ w₀ κ m' w'→ARel m'.Has κ a' a2→Rel κ m' w'→wpAny P .any ops (K9 ι₀ m₀ w₀ Q) a6 (O.setIfInBounds i true) a2 w':=by
    intro a' m' κ a2 w' h' I a7 ab
    refine ih (i+1) (by omega) (by omega) ?_ a' m' h' ι₀ m₀ w₀ a6 _ (by simp[ac]) ?_ (fun j hj=>?_) κ a2 w' I a7 ab
    ·have:=congrArg (List.drop 1) hl
     rw[List.drop_take,List.drop_drop]at this
     simpa[Nat.sub_sub]using this
    ·have:=ZP Z ops.size a8
     rw[Xi (by omega)]
     omega
    ·rw[Xi (by omega)]
     simp only[E j hj]
     by_cases e:j=i
     ·subst e;simp
     ·have ap:(j==i)=false:=by simp[e]
      rw[ap,qx]
      congr 1
      apply propext
      omega
   have hy:yielded ops act.tmps=JJ ops.toList a:=funext fun j=>Vc ha ops j
   simp only[Xs]at h
   unfold wpOp
   simp only[ah,hy]
   split at h
   ·rename_i hw
    rw[if_pos hw]
    left
    unfold Oper.wp
    replace h:(∃v m',OSim P ι m w o act v m'∧Xs P ops.toList (From P ops Q b') l (QT a o.dst v) m')∨(∃k xs R,Xj a o.op=some (k,xs)∧Qf P k=true∧Spec P k xs m R∧∀v m',R v m'→Xs P ops.toList (From P ops Q b') l (QT a o.dst v) m'):=by
     rcases h with⟨v,m',h1,h2⟩|h|⟨R,h1,h2⟩
     ·exact .inl ⟨v,m',evOp_run hr ha h1,h2⟩
     ·exact .inr h
     ·obtain⟨v,m',h3,h4⟩:=evAny_run hr ha h1
      exact .inl ⟨v,m',h4,h2 v m' h3⟩
    rcases h with⟨v,m',h1,h2⟩|⟨f,xs,R,h1,he,am,h2⟩
    ·obtain⟨v',w',κ,U,hv,ab,I⟩:=h1
     have a7:ARel m'.Has κ (QT a o.dst v) (act.put o.dst v'):=(ha.mono I.grows I.at_).put' o.dst hv
     have:=Y _ _ κ _ w' h2 (hs.trans I) a7 ab
     rcases U with U|⟨U,rfl⟩
     ·rw[U,Oper.upon_value];exact this
     ·rw[U,Oper.upon_skip];exact this
    ·obtain⟨ys,aq,ag⟩:=Vx ha h1 he
     rw[ag w,Oper.upon_enter]
     refine(am ι w ys aq hr).mono ?_
     rintro e w' ⟨v,v',κ,m',hR,rfl,hv,ab,I⟩
     have a7:ARel m'.Has κ (QT a o.dst v) (act.put o.dst v'):=(ha.mono I.grows I.at_).put' o.dst hv
     exact Y _ _ κ _ w' (h2 v m' hR) (hs.trans I) a7 ab
   ·rename_i hw
    rw[if_neg hw]
    exact Y _ _ ι _ w h hs (ha.put' o.dst Xv) hr
theorem head_run3{b q b':Nat}(hho:Xz ops q=true)(hseq:seqOK ops q b'=true)(hbar:barOK ops b'=true)(hqb:q≤b')(hb':b'≤ops.size)(ha₀:∀(t:Nat)(x:Value),a₀[t]?=some x→Cl m.Has x)(hm:∀b x,m.get b=some x→ClBlk m.Has x)
 (hd:∀i o,b≤i→i<q→ops[i]?=some o→DOp P ops a₀ m v N i o) {Q:Exit→List Value→Mem→Prop} {ι₀:Nat→Loc} {m₀:Mem} {w₀:World}
 (ht:Xs P ops.toList (From P ops Q b') ((ops.toList.drop q).take (b'-q)) (Jd ops v allS a₀ q) (Jq m N allS q)):∀(fuel:Nat)(listed:Array Bool)(_:listed.size=ops.size)(_:XJ (JT listed) ops.size≤fuel)(_:∀j,j<b→JT listed j=true)(κ:Nat→Loc)(act:Act)(w:World),Inv ops a₀ m v N q ι₀ m₀ w₀ (JT listed) κ act w→
 wpAny P .any ops (K9 ι₀ m₀ w₀ Q) fuel listed act w:=by
 have Y:XU ops.toList=true:=by simp only[Xz,qk]at hho;exact hho.1.2
 have done:∀(fuel:Nat)(listed:Array Bool)(_:listed.size=ops.size)(_:XJ (JT listed) ops.size≤fuel)(κ:Nat→Loc)(act:Act)(w:World),Inv ops a₀ m v N q ι₀ m₀ w₀ (JT listed) κ act w→(∀j,j<q→JT listed j=true)→
  wpAny P .any ops (K9 ι₀ m₀ w₀ Q) fuel listed act w:=by
  intro fuel listed O E κ act w h I
  have Z:Jq m N (JT listed) q=Jq m N allS q:=by unfold Jq;rw[Zr (T:=allS) q fun k hk=>I k hk]
  have ai:Jd ops v (JT listed) a₀ q=Jd ops v allS a₀ q:=by
   apply qu
   intro t
   exact Q2 t q fun k hk _=>I k hk
  refine tail_to Y hseq hbar hb' _ q (qi _) hqb rfl _ _ ht ι₀ m₀ w₀ fuel listed O E (fun j hj=>?_) κ act w (by rw[←Z];exact h.step) (by rw[←Z,←ai];exact h.frame) (by rw[←Z];exact h.rel)
  rcases qr j q with a6|a8
  ·rw[I j a6];simp[a6]
  ·rw[h.low j a8];simp;omega
 intro fuel
 induction fuel with
 |zero=>
  intro listed O E hb κ act w h
  exact done 0 listed O E κ act w h fun j hj=>left_none E j (by omega)
 |succ fuel ih=>
  intro listed O E hb κ act w h
  by_cases I:∀j,j<q→JT listed j=true
  ·exact done _ listed O E κ act w h I
  ·have ag:∃j,j<q∧JT listed j=false:=by
    rcases Classical.em (∃j,j<q∧JT listed j=false)with h'|h'
    ·exact h'
    ·refine absurd (fun j hj=>?_) I
     cases hg:JT listed j
     ·exact absurd ⟨j,hj,hg⟩ h'
     ·rfl
   obtain⟨j,hj,ad⟩:=ag
   refine⟨fun hn=>absurd hn (ZN O Y ⟨j,by omega,ad⟩),fun i hi=>?_⟩
   obtain⟨a7,a2,oi,aa,U⟩:=(XR O).1 hi
   have ae:i<q:=by
    rcases qr i q with a6|a8
    ·exact a6
    ·exfalso
     have hB:B ops i j=true:=by
      rcases qr i b' with h1|h1
      ·exact seqOK_spec hseq h1 a8 (by omega)
      ·exact barOK_spec hbar a7 h1 (by omega)
     have:=h.down.bef i oi aa U j hB
     rw[ad]at this;cases this
   have ah:b≤i:=by
    rcases qr i b with h1|h1
    ·rw[hb i h1]at a2;cases a2
    ·exact h1
   refine h.op hho (by omega) ha₀ hm aa ae a2 U (hd i oi ah ae aa) fun κ' act' w' h'=>?_
   refine ih _ (by simp[O]) ?_ (fun k hk=>?_) κ' act' w' (by rw[Xi (by omega)];exact h')
   ·have:=ZP a2 ops.size a7
    rw[Xi (by omega)]
    omega
   ·rw[Xi (by omega)];simp[hb k hk]
def idV(ops:Array Oper)(a:List Value)(k:Nat):Value:=match(ops[k]?).bind (·.dst)with
 |some t=>(a[t]?).getD undef
 |none=>undef
theorem aPut_id(ops:Array Oper)(a:List Value)(k:Nat):QT a ((ops[k]?).bind (·.dst)) (idV ops a k)=a:=by
 unfold idV
 cases(ops[k]?).bind (·.dst)with
 |none=>rfl
 |some t=>
  simp only[QT]
  apply qu
  intro j
  rw[List.getElem?_set]
  split
  ·rename_i e;subst e
   split
   ·rename_i hlt;rw[List.getElem?_eq_getElem hlt];rfl
   ·rename_i hge;rw[qD (by omega)]
  ·rfl
theorem frameAt_id{S:Nat→Bool}{a:List Value}:∀n,(∀k,k<n→S k=true→v k=idV ops a k)→Jd ops v S a n=a
 |0,_=>rfl
 |n+1,h=>by
  simp only[Jd]
  rw[frameAt_id n fun k hk=>h k (by omega)]
  split
  ·rename_i hS
   rw[h n (by omega) hS,aPut_id]
  ·rfl
theorem idV_cl{a:List Value}{k:Nat}{p:Nat→Prop}(h:∀(t:Nat)(x:Value),a[t]?=some x→Cl p x):Cl p (idV ops a k):=by
 unfold idV
 have E:Cl p undef:=⟨fun _=>⟨0,0,0,0⟩,undef,Xv⟩
 split
 ·rename_i t _
  cases hx:a[t]? with
  |none=>exact E
  |some x=>exact h t x hx
 ·exact E
theorem From_phase{b q b':Nat}(hok:phaseOK ops b q b'=true){Q:Exit→List Value→Mem→Prop}(hv:∀k,k<b→v k=idV ops a₀ k)(hN:∀k,k<b→N k=[])
 (hd:∀i o,b≤i→i<q→ops[i]?=some o→DOp P ops a₀ m v N i o)
 (ht:Xs P ops.toList (From P ops Q b') ((ops.toList.drop q).take (b'-q)) (Jd ops v allS a₀ q) (Jq m N allS q)):From P ops Q b a₀ m:=by
 obtain⟨Z,aa,a7,am,ai,ad⟩:=phaseOK_spec hok
 intro ι₀ m₀ w₀ a8 E ac U I ι act w hs ha hr
 have Y:XU ops.toList=true:=by simp only[Xz,qk]at Z;exact Z.1.2
 have ab:∀(t:Nat)(x:Value),a₀[t]?=some x→Cl m.Has x:=fun t x hx=>by
  obtain⟨y,_,hy⟩:=ha.tmps.get hx
  exact hy.cl
 have ag:=hr.clBlk
 have hS:∀k,JT E k=true→k<b:=fun k hk=>by
  rcases qr k ops.size with h1|h1
  ·rw[I k h1]at hk;simpa using hk
  ·unfold JT at hk
   rw[qh,Array.getElem?_eq_none (by omega)]at hk
   cases hk
 have O:Jq m N (JT E) q=Jq m N (fun _=>false) q:=by
  unfold Jq
  rw[newsAt_nil (T:=fun _=>false) q fun k hk=>?_]
  cases hg:JT E k
  ·exact .inl rfl
  ·exact .inr (hN k (hS k hg))
 have ah:Jd ops v (JT E) a₀ q=a₀:=frameAt_id q fun k _ hk=>hv k (hS k hk)
 refine head_run3 Z aa a7 ai ad ab ag hd ht a8 E ac U (fun j hj=>by rw[I j (by omega)];simp[hj]) ι act w ?_
 refine⟨?_,fun k hk=>?_,?_,?_,?_,fun k hk hSk=>?_,fun k hk hSk x hx=>?_⟩
 ·intro x ox hx ae e hm hb
  have al:=(qp.1 hx).1
  have:=hS x ae
  have an:=XN Y hx hm hb
  rw[I _ (by omega)]
  simp;omega
 ·cases hg:JT E k
  ·rfl
  ·have:=hS k hg;omega
 ·rw[ah,O]
  exact ha.mono (fun c hc=>(JF _ _ _).2 (.inl hc)) fun _ _=>rfl
 ·rw[O];exact Zs q hr
 ·rw[O]
  refine hs.trans ⟨rfl,rfl,rfl,qi _,fun b hb=>(JF _ _ _).2 (.inl hb),fun _ _=>rfl,fun _ _ _=>rfl,fun b hb=>.inr ⟨b,?_,rfl⟩⟩
  obtain⟨y,hx,hy⟩:=hb
  rcases(QW _ _ _ _).1 hx with⟨_,h1⟩|⟨k,_,h1,_⟩
  ·exact⟨y,h1,hy⟩
  ·cases h1
 ·rw[hv k (hS k hSk)]
  exact(idV_cl ab).mono fun b hb=>(VI _ _).2 (.inl hb)
 ·rw[hN k (hS k hSk)]at hx;cases hx
theorem AW_from{id:Nat}{Q:Exit→List Value→Mem→Prop}(hmix:P.follows .mixedOrders=true){a:List Value}(h:From P ops Q 0 a m):AW P (.region id ops true) Q a m:=by
 intro ι₀ m₀ w₀ ι act w hs Y I
 refine wp_region_any hmix ?_
 have O:Rel ι m { w with drawn:=w.drawn+1 }:=⟨I.at',I.oth,I.inj,⟨I.glob.known.keep fun _ _=>rfl,I.glob.own⟩⟩
 have U:Step ι₀ m₀ w₀ ι m { w with drawn:=w.drawn+1 }:=⟨hs.os,hs.tape,hs.output,hs.size,hs.grows,hs.at_,hs.block,hs.own⟩
 have E:JT (qF ops.size false)=fun _=>false:=by
  funext k
  unfold JT
  rw[qh,qw]
  split<;>rfl
 exact h ι₀ m₀ w₀ ops.size _ (by simp) (by rw[E,VY];exact qi _) (fun j _=>by rw[E];simp) ι act _ U Y O
end
end
def Ext(m m':Mem):Prop:=m.size≤m'.size∧(∀b,b<m.size→m'.blks[b]?=m.blks[b]?∨(m.Own b∧∃o,m'.blks[b]?=some (some o)∧Vr o=true))∧
 ∀b,m.size≤b→b<m'.size→∃o,m'.blks[b]?=some (some o)∧Vr o=true
theorem app_get_new{m:Mem}{N:List (Option Blk)}{b:Nat}{x:Blk}(hb:m.size≤b)(h:N[b-m.size]?=some (some x)):(m.app N).get b=some x:=by
 rw[get_iff]
 unfold Mem.app
 simp only[Mem.size]at hb h ⊢
 rw[qA,if_neg (by omega),List.getElem?_map,h]
 rfl
theorem app_get_old{m:Mem}{N:List (Option Blk)}{b:Nat}(hb:b<m.size):(m.app N).get b=m.get b:=by
 unfold Mem.get Mem.app
 simp only[Mem.size]at hb
 simp only
 rw[qA,if_pos hb]
structure N16(α:Type) where
 (a b c d e f g h i j k l m n o p:α)
def e16{α:Type}(x:α):N16 α:=⟨x,x,x,x,x,x,x,x,x,x,x,x,x,x,x,x⟩
theorem Zb{n:Nat}(h:n<9223372036854775808):IntKind.i64.wrap (qe n)=qe n:=by
 have e:IntKind.i64.bits=64:=rfl
 have I:IntKind.i64.signed=true:=rfl
 unfold IntKind.wrap
 simp only[e,I,Bool.true_and,decide_eq_true_eq]
 have E:(qe n)%(2^64:Int)=qe n:=by
  have:(2:Int)^64=18446744073709551616:=by decide
  rw[this]
  simp only[qd];omega
 rw[E,if_neg]
 have:(2:Int)^(64-1)=9223372036854775808:=by decide
 rw[this]
 simp only[qd];omega
noncomputable def fNat(op:BinOp)(a b:Nat):Option Value:=
 match op with
 |.add=>bif qq (Nat.add a b) 9223372036854775808 then some (.int .i64 (.ofNat (Nat.add a b)))else none
 |.sub=>bif qG b a then some (.int .i64 (.ofNat (Nat.sub a b)))else none
 |.mul=>bif qq (Nat.mul a b) 9223372036854775808 then some (.int .i64 (.ofNat (Nat.mul a b)))else none
 |.quo=>bif Nat.beq b 0 then none else some (.int .i64 (.ofNat (Nat.div a b)))
 |.rem=>bif Nat.beq b 0 then none else some (.int .i64 (.ofNat (Nat.mod a b)))
 |.and=>some (.int .i64 (.ofNat (Nat.land a b)))
 |.or=>some (.int .i64 (.ofNat (Nat.lor a b)))
 |.xor=>some (.int .i64 (.ofNat (Nat.xor a b)))
 |.eql=>some (.bool (Nat.beq a b))
 |.neq=>some (.bool (Bool.not (Nat.beq a b)))
 |.lss=>some (.bool (qq a b))
 |.leq=>some (.bool (qG a b))
 |.gtr=>some (.bool (qq b a))
 |.geq=>some (.bool (qG b a))
 |.shl=>bif qq b 64 then bif qq (Nat.mul a (Nat.pow 2 b)) 9223372036854775808 then some (.int .i64 (.ofNat (Nat.mul a (Nat.pow 2 b))))else none else none
 |.shr=>bif qq b 64 then some (.int .i64 (.ofNat (Nat.div a (Nat.pow 2 b))))else none
 |_=>none
theorem blt_iff{a b:Nat}:qq a b=true↔a<b:=by
 constructor
 ·intro h;exact qo h
 ·intro h;exact Nat.ble_eq_true_of_le h
theorem blt_dec(a b:Nat):qq a b=decide (a<b):=by
 rw[qB,blt_iff,decide_eq_true_eq]
theorem ble_dec(a b:Nat):qG a b=decide (a≤b):=by
 rw[qB,Nat.ble_eq,decide_eq_true_eq]
theorem bits_and{a b:Nat}(ha:a<9223372036854775808)(hb:b<9223372036854775808)(F:(w:Nat)→BitVec w→BitVec w→BitVec w)(G:Nat→Nat→Nat)(hF:∀x y:BitVec 64,(F 64 x y).toNat=G x.toNat y.toNat)(hG:G a b<9223372036854775808):
 IntKind.i64.wrap (((F IntKind.i64.bits (BitVec.ofInt IntKind.i64.bits (qe a)) (BitVec.ofInt IntKind.i64.bits (qe b))).toNat:Nat):Int)=qe (G a b):=by
 show IntKind.i64.wrap (((F 64 (BitVec.ofInt 64 (qe a)) (BitVec.ofInt 64 (qe b))).toNat:Nat):Int)=qe (G a b)
 have h:∀n:Nat,n<9223372036854775808→(BitVec.ofInt 64 (qe n)).toNat=n:=fun n hn=>by
  simp only[qd,BitVec.toNat_ofInt,Int.toNat_emod]
  omega
 rw[hF,h a ha,h b hb]
 exact Zb hG
theorem fNat_spec{op:BinOp}{a b:Nat}{v:Value}(h:fNat op a b=some v)(ha:a<9223372036854775808)(hb:b<9223372036854775808)(hop:op≠ .shl∧op≠ .shr):XW op .i64 (qe a) (qe b)=some v:=by
 cases op<;>simp only[fNat]at h<;>first|(cases h;done)|skip
 case shl=>exact absurd rfl hop.1
 case shr=>exact absurd rfl hop.2
 case add=>
  cases hc:qq (Nat.add a b) 9223372036854775808<;>rw[hc]at h<;>first|(cases h;done)|skip
  cases h
  have:=Zb (blt_iff.1 hc)
  simp only[XW]
  rw[←this];rfl
 case sub=>
  cases hc:qG b a<;>rw[hc]at h<;>first|(cases h;done)|skip
  cases h
  have E:b≤a:=qo hc
  have e:(qe a-qe b)=qe (a-b):=by simp only[qd];omega
  simp only[XW]
  rw[e,Zb (by omega)];rfl
 case mul=>
  cases hc:qq (Nat.mul a b) 9223372036854775808<;>rw[hc]at h<;>first|(cases h;done)|skip
  cases h
  have:=Zb (blt_iff.1 hc)
  simp only[XW]
  rw[←this];rfl
 case quo=>
  cases hc:Nat.beq b 0<;>rw[hc]at h<;>first|(cases h;done)|skip
  cases h
  have I:b≠0:=fun e=>by subst e;cases hc
  simp only[XW]
  rw[if_neg (by simp only[qd];omega)]
  have e:(qe a).tdiv (qe b)=qe (a/b):=rfl
  rw[e,Zb (Nat.lt_of_le_of_lt (Nat.div_le_self a b) ha)];rfl
 case rem=>
  cases hc:Nat.beq b 0<;>rw[hc]at h<;>first|(cases h;done)|skip
  cases h
  have I:b≠0:=fun e=>by subst e;cases hc
  simp only[XW]
  rw[if_neg (by simp only[qd];omega)]
  rfl
 case and=>
  cases h
  simp only[XW]
  have e:=bits_and ha hb (fun _ x y=>x&&&y) (fun x y=>x&&&y) (fun x y=>BitVec.toNat_and x y) (Nat.lt_of_le_of_lt Nat.and_le_left ha)
  exact congrArg (fun x=>some (Value.int .i64 x)) e
 case or=>
  cases h
  simp only[XW]
  have e:=bits_and ha hb (fun _ x y=>x|||y) (fun x y=>x|||y) (fun x y=>BitVec.toNat_or x y) (Nat.or_lt_two_pow (n:=63) ha hb)
  exact congrArg (fun x=>some (Value.int .i64 x)) e
 case xor=>
  cases h
  simp only[XW]
  have e:=bits_and ha hb (fun _ x y=>x^^^y) (fun x y=>x^^^y) (fun x y=>BitVec.toNat_xor x y) (Nat.xor_lt_two_pow (n:=63) ha hb)
  exact congrArg (fun x=>some (Value.int .i64 x)) e
 case eql=>
  cases h
  simp only[XW]
  congr 2
  rw[qB]
  simp only[beq_iff_eq,Nat.beq_eq,qd]
  omega
 case neq=>
  cases h
  simp only[XW]
  congr 2
  have e:(qe a==qe b)=Nat.beq a b:=by
   rw[qB]
   simp only[beq_iff_eq,Nat.beq_eq,qd]
   omega
  rw[bne,e]
 all_goals
  cases h
  simp only[XW,blt_dec,ble_dec]
  congr 2
  rw[qB]
  simp
noncomputable def fBin(P:Program)(op:BinOp)(t:TypeId)(cx:Bool)(x y:Value):Option Value:=
 match x,y with
 |.int .i64 (.ofNat a),.int .i64 (.ofNat b)=>bif qq a 9223372036854775808 then bif qq b 9223372036854775808 then match fNat op a b with
  |some v=>some v
  |none=>aBin P op t cx (.int .i64 (.ofNat a)) (.int .i64 (.ofNat b))
  else aBin P op t cx (.int .i64 (.ofNat a)) (.int .i64 (.ofNat b))
  else aBin P op t cx (.int .i64 (.ofNat a)) (.int .i64 (.ofNat b))
 |x,y=>aBin P op t cx x y
theorem fBin_eq{P:Program}{op:BinOp}{t:TypeId}{cx:Bool}{x y v:Value}(h:fBin P op t cx x y=some v):aBin P op t cx x y=some v:=by
 unfold fBin at h
 split at h
 ·rename_i a b
  cases E:qq a 9223372036854775808<;>rw[E]at h<;>first|exact h|skip
  cases hb:qq b 9223372036854775808<;>rw[hb]at h<;>first|exact h|skip
  simp only[cond_true]at h
  split at h
  ·rename_i u hu
   cases h
   have E:=blt_iff.1 E
   have hb:=blt_iff.1 hb
   by_cases hop:op≠ .shl∧op≠ .shr
   ·have:=fNat_spec hu E hb hop
    cases op<;>simp only[aBin,if_true]<;>first|exact this|(exact absurd rfl hop.1)|(exact absurd rfl hop.2)
   ·have e:op=.shl∨op=.shr:=by cases op<;>simp_all
    rcases e with rfl|rfl
    ·simp only[fNat]at hu
     cases hc:qq b 64<;>rw[hc]at hu<;>first|(cases hu;done)|skip
     simp only[cond_true]at hu
     cases I:qq (Nat.mul a (Nat.pow 2 b)) 9223372036854775808<;>rw[I]at hu<;>first|(cases hu;done)|skip
     cases hu
     have hc:=blt_iff.1 hc
     have I:=blt_iff.1 I
     simp only[aBin]
     rw[if_pos (by simp only[qd];omega)]
     have O:min (qe b).toNat IntKind.i64.bits=b:=by
      have:IntKind.i64.bits=64:=rfl
      rw[this]
      simp only[qd,Int.toNat_natCast];omega
     rw[O]
     have U:qe a*2^b=qe (Nat.mul a (Nat.pow 2 b)):=by
      simp only[qd,Nat.mul_eq,Nat.pow_eq,Int.natCast_mul,Int.natCast_pow];rfl
     rw[U,Zb I]
    ·simp only[fNat]at hu
     cases hc:qq b 64<;>rw[hc]at hu<;>first|(cases hu;done)|skip
     cases hu
     have hc:=blt_iff.1 hc
     simp only[aBin]
     rw[if_pos (by simp only[qd];omega)]
     have O:min (qe b).toNat IntKind.i64.bits=b:=by
      have:IntKind.i64.bits=64:=rfl
      rw[this]
      simp only[qd,Int.toNat_natCast];omega
     rw[O]
     have U:(2:Int)^b=qe (2^b):=by simp only[qd,Int.natCast_pow];rfl
     rw[U]
     have Y:(qe a).fdiv (qe (2^b))=qe (a/2^b):=(Int.ofNat_fdiv a (2^b)).symm
     rw[Y];rfl
  ·exact h
 ·exact h
section
variable (P : Program) (get : Nat → Option Blk)
def gLoad(t:TypeId)(p:Value):Option Value:=
 match p with
 |.pointer (some ⟨b,o,none⟩)=>match get b with
  |some (.cells _ _ cs)=>match P.underlying t with
   |none=>none
   |some d=>if d.isRow then match P.info? t with
    |some i=>if o+i.size≤cs.length then some (.agg ((cs.drop o).take i.size).toArray)else none
    |none=>none
    else cs[o]?
  |_=>none
 |_=>none
def Xy(src dst:TypeId)(x:Value):Option Value:=
 match P.underlying src with
 |some (.slice e)=>match P.underlying dst with
  |some .string=>match P.underlying e with
   |some (.int .u8)=>match x with
    |.slice none 0 0=>some (.string ⟨#[]⟩)
    |.slice (some ⟨b,o,none⟩) n _=>match get b with
     |some (.cells _ _ cs)=>if o+n≤cs.length then match ZS ((cs.drop o).take n)with
      |some l=>some (.string ⟨⟨l⟩⟩)
      |none=>none
      else none
     |_=>none
    |_=>none
   |_=>none
  |_=>none
 |_=>none
def JX(t:TypeId)(x:Value)(lo hi:Option Value):Option Value:=
 match P.underlying t with
 |some .string=>match x with
  |.string s=>match X5 (JB s) (JB s) lo hi with
   |some (l,h)=>some (.string (bsub s l h))
   |none=>none
  |_=>none
 |some (.slice e)=>match P.info? e with
  |none=>none
  |some i=>match x with
   |.slice none 0 0=>match X5 0 0 lo hi with
    |some _=>some (.slice none 0 0)
    |none=>none
   |.slice (some ⟨b,o,none⟩) len cap=>match X5 len cap lo hi with
    |some (l,h)=>match get b with
     |some (.cells _ s _)=>if s=i.size then some (.slice (some ⟨b,o+l*i.size,none⟩) (h-l) (cap-l))else none
     |_=>none
    |none=>none
   |_=>none
 |some (.array n e)=>match P.info? e with
  |none=>none
  |some i=>match x with
   |.pointer (some ⟨b,o,none⟩)=>match X5 n n lo hi with
    |some (l,h)=>if l<n then some (.slice (some ⟨b,o+l*i.size,none⟩) (h-l) (n-l))else none
    |none=>none
   |_=>none
 |_=>none
end
section
variable {P : Program} {get get' : Nat → Option Blk} (hg : ∀ b x, get b = some x → get' b = some x)
include hg
theorem gLoad_mono{t:TypeId}{p v:Value}(h:gLoad P get t p=some v):gLoad P get' t p=some v:=by
 unfold gLoad at h ⊢
 split at h<;>first|(cases h;done)|skip
 rename_i b o
 cases hb:get b with
 |none=>rw[hb]at h;cases h
 |some x=>rw[hb]at h;simp only[hg b x hb];exact h
theorem gToString_mono{s d:TypeId}{p v:Value}(h:Xy P get s d p=some v):Xy P get' s d p=some v:=by
 unfold Xy at h ⊢
 split at h<;>first|(cases h;done)|skip
 split at h<;>first|(cases h;done)|skip
 split at h<;>first|(cases h;done)|skip
 split at h<;>first|(cases h;done)|skip
 ·exact h
 ·rename_i b o n _
  cases hb:get b with
  |none=>rw[hb]at h;cases h
  |some x=>rw[hb]at h;simp only[hg b x hb];exact h
theorem gSlice_mono{t:TypeId}{x v:Value}{lo hi:Option Value}(h:JX P get t x lo hi=some v):JX P get' t x lo hi=some v:=by
 unfold JX at h ⊢
 split at h<;>first|(cases h;done)|skip
 ·exact h
 ·split at h<;>first|(cases h;done)|skip
  split at h<;>first|(cases h;done)|skip
  ·exact h
  ·split at h<;>first|(cases h;done)|skip
   rename_i b o len cap _ l h' _
   cases hb:get b with
   |none=>rw[hb]at h;cases h
   |some x=>rw[hb]at h;simp only[hg b x hb];exact h
 ·exact h
end
def JY(vs:List Value)(k:Nat):Value:=(vs[k]?).getD undef
def JH(Ns:List (List (Option Blk)))(k:Nat):List (Option Blk):=(Ns[k]?).getD []
theorem OpSim.congr [Defs] {P:Program}{o:Oper}{a b:List Value}{m:Mem}{R:Value→Mem→Prop}(h:OpSim P o a m R)(he:∀x∈o.op.operands,JD b x=JD a x):OpSim P o b m R:=
 fun c ι act act2 w K Q hbc=>h c ι act act2 w K Q fun x hx=>by rw[←he x hx];exact hbc x hx
theorem Z3{ops:Array Oper}{v u:Nat→Value}{S:Nat→Bool}{a:List Value}:∀n,(∀k,k<n→v k=u k)→Jd ops v S a n=Jd ops u S a n
 |0,_=>rfl
 |n+1,h=>by simp only[Jd,Z3 n fun k hk=>h k (by omega),h n (by omega)]
theorem XZ{N N':Nat→List (Option Blk)}{S:Nat→Bool}:∀n,(∀k,k<n→N k=N' k)→Q7 N S n=Q7 N' S n
 |0,_=>rfl
 |n+1,h=>by simp only[Q7,XZ n fun k hk=>h k (by omega),h n (by omega)]
theorem DOp_congr [Defs] {P:Program}{ops:Array Oper}{a:List Value}{m:Mem}{v u:Nat→Value}{N N':Nat→List (Option Blk)}{k:Nat}{o:Oper}(hv:∀j,j≤k→v j=u j)(hN:∀j,j≤k→N j=N' j)(h:DOp P ops a m v N k o):DOp P ops a m u N' k o:=by
 unfold DOp memOf Xa Uf Jq at*
 rw[←Z3 k fun j hj=>hv j (by omega),←XZ k fun j hj=>hN j (by omega),←hv k (qi _),←hN k (qi _)]
 exact h
theorem Vk{vs:List Value}{v:Value}{j:Nat}:JY (vs++[v]) j=if j<vs.length then JY vs j else if j=vs.length then v else undef:=by
 unfold JY
 rw[qA]
 split
 ·rfl
 ·rename_i h
  by_cases e:j=vs.length
  ·subst e;simp
  ·rw[if_neg e,qD (by simp;omega)];rfl
theorem Vl{Ns:List (List (Option Blk))}{N:List (Option Blk)}{j:Nat}:JH (Ns++[N]) j=if j<Ns.length then JH Ns j else if j=Ns.length then N else []:=by
 unfold JH
 rw[qA]
 split
 ·rfl
 ·rename_i h
  by_cases e:j=Ns.length
  ·subst e;simp
  ·rw[if_neg e,qD (by simp;omega)];rfl
theorem slot_all{ops:Array Oper}{a:List Value}{v:Nat→Value}{q i:Nat}{o:Oper}(hap:Xt ops (befM ops.toList) q=true)(hiq:i<q)(hqs:q≤ops.size)(hi:ops[i]?=some o){t:Nat}(ht:t∈o.looksAt ops):
 (Uf ops a v i)[t]?=(Jd ops v allS a i)[t]?:=by
 refine Q2 t i fun k hk hdst=>?_
 cases hb:B ops i k
 ·have E:ops[k]?=some ops[k]:=qf (by omega)
  rw[E]at hdst
  exact absurd ht ((Oper.apart_spec (Qq hap hk hiq E hi hb)).1 t hdst)
 ·rfl
theorem memAt_succ(m:Mem)(N:Nat→List (Option Blk))(k:Nat):Jq m N allS (k+1)=(Jq m N allS k).app (N k):=by
 unfold Jq Mem.app
 simp[Q7,allS]
end Go.Proofs.YthohbneadomgdaaGreatDoor.Abs
