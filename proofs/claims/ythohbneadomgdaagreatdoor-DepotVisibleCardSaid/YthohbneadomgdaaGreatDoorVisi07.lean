import Derived.Test.YthohbneadomgdaaGreatDoorVisi06
set_option linter.all false
set_option maxRecDepth 100000
set_option maxHeartbeats 16000000
open Nat renaming reduceLT→yQ,reduceEqDiff→yK,reduceAdd→yV,reduceSub→yY,reduceMul→yU
open Int renaming reduceToNat→yW,reduceLE→yX,reduceEq→yZ,reduceLT→yJ
open Int renaming ofNat_eq_natCast→qc,ofNat→qd
open Array renaming getElem?_eq_getElem→qe,getD_eq_getD_getElem?→qf,getElem?_eq_some_iff→qm,getElem?_replicate→qv,getElem?_toList→qy,replicate→qF
open Nat renaming le_refl→qh,le_of_ble_eq_true→qk,blt→qo,lt_or_ge→qp,lt_trichotomy→qx,ble→qG
open Bool renaming or_eq_true→qi,and_eq_true→qj,or_false→qw,eq_iff_iff→qB
open Option renaming ne_none_iff_exists'→qq
open List renaming ext_getElem?→qt,all_eq_true→qu,getElem?_append→qA,mem_range→qC,getElem?_eq_none→qD,mem_of_getElem?→qE,range→qH
namespace Go.Proofs.YthohbneadomgdaaGreatDoor.Abs
open Go
section
variable [Defs]
theorem Rel.part{κ:Nat→Loc}{M M':Mem}{w:World}(h:Rel κ M w)(hg:∀b x,M'.get b=some x→M.get b=some x)
 (hcl:∀b x,M'.get b=some x→ClBlk M'.Has x):Rel κ M' w:=by
 refine⟨fun b ro s cs hb=>?_,fun b x hb=>?_,fun b b' hb hb'=>?_,⟨h.glob.known,fun b ⟨y,hb,I⟩=>h.glob.own b ⟨y,hg _ _ hb,I⟩⟩⟩
 ·obtain⟨C,e,fz,E,h2,O,U,Z,h6⟩:=h.at' b ro s cs (hg _ _ hb)
  refine⟨C,e,fz,E,h2,O,U,fun i v hi=>?_,h6⟩
  obtain⟨Y,v',h8,h9⟩:=Z i v hi
  exact⟨Y,v',h8,(hcl b _ hb v (qE hi)).rel h9⟩
 ·have E:=h.oth b x (hg _ _ hb)
  cases x with
  |cells=>trivial
  |kv=>exact E
  |raw=>exact E
  |it ro b' s seen l=>exact⟨E.1,E.2.1,hcl b _ hb⟩
 ·refine h.inj b b' ?_ ?_
  ·obtain⟨x,hx⟩:=qq.1 hb
   rw[hg _ _ hx];simp
  ·obtain⟨y,hx,I⟩:=hb'
   exact⟨y,hg _ _ hx,I⟩
open Classical in
noncomputable def Kk(M1':Mem)(κ' κ:Nat→Loc):Nat→Loc:=fun b=>if M1'.Has b then κ' b else κ b
theorem QQ{M1':Mem}{κ' κ:Nat→Loc}{b:Nat}(h:M1'.Has b):Kk M1' κ' κ b=κ' b:=by unfold Kk;rw[if_pos h]
theorem QY{M1':Mem}{κ' κ:Nat→Loc}{b:Nat}(h:¬M1'.Has b):Kk M1' κ' κ b=κ b:=by unfold Kk;rw[if_neg h]
theorem part_step{κ κ':Nat→Loc}{M M1 M1' M':Mem}{w w':World}(h:Rel κ M w)(h':Rel κ' M1' w')(hs:Step κ M1 w κ' M1' w')
 (h1:∀b,M1.Has b→M.Has b∧M1.get b=M.get b) (h2:∀b,M1'.Has b→M1.Has b∨¬M.Has b) (h3:∀b,M1.Has b→M1'.get b≠none→M1.get b≠none)
 (h4:∀b,M1'.Has b→¬M.Has b→M1'.get b≠none→M1'.Own b)
 (g1:∀b,M1'.Has b→M'.get b=M1'.get b) (g2:∀b,¬M1'.Has b→M'.get b=M.get b) (g3:∀b,M'.Has b↔M.Has b∨M1'.Has b):
 Rel (Kk M1' κ' κ) M' w'∧Step κ M w (Kk M1' κ' κ) M' w':=by
 have Z:∀b,M.Has b→Kk M1' κ' κ b=κ b:=fun b hb=>by
  by_cases hc:M1'.Has b
  ·rw[QQ hc]
   rcases h2 b hc with h5|h5
   ·exact hs.at_ b h5
   ·exact absurd hb h5
  ·exact QY hc
 have O:∀b,M1.Own b→M.Own b:=fun b ⟨y,hb,U⟩=>⟨y,by rw[←(h1 b (Mem.get_has hb)).2];exact hb,U⟩
 have E:∀{M:Mem}{b:Nat},M.Own b→M.Has b:=fun⟨_,hb,_⟩=>Mem.get_has hb
 have aa:∀{M:Mem}{b:Nat},M.get b≠none→M.Has b:=fun hb=>by
  obtain⟨x,hx⟩:=qq.1 hb
  exact Mem.get_has hx
 have I:∀{M:Mem}{b:Nat},M.Own b→M.get b≠none:=fun⟨_,hb,_⟩=>by rw[hb];simp
 refine⟨⟨fun b ro s cs hb=>?_,fun b x hb=>?_,fun b b' hb hb' hne=>?_,⟨h'.glob.known,fun b ⟨y,hb,U⟩=>?_⟩⟩,⟨hs.os,hs.tape,hs.output,hs.size,fun b hb=>(g3 b).2 (.inl hb),Z,fun g hg ho=>?_,fun b hb=>?_⟩⟩
 ·by_cases hc:M1'.Has b
  ·rw[g1 b hc]at hb
   obtain⟨C,e,fz,k1,k2,k3,k4,k5,k6⟩:=h'.at' b ro s cs hb
   rw[QQ hc]
   refine⟨C,e,fz,k1,k2,k3,k4,fun i v hi=>?_,k6⟩
   obtain⟨k7,v',k8,k9⟩:=k5 i v hi
   exact⟨k7,v',k8,k9.mono (fun c hc=>(g3 c).2 (.inr hc)) fun c hc=>QQ hc⟩
  ·rw[g2 b hc]at hb
   obtain⟨C,e,fz,k1,k2,k3,k4,k5,k6⟩:=h.at' b ro s cs hb
   rw[QY hc]
   refine⟨C,e,fz,?_,k2,k3,k4,fun i v hi=>?_,k6⟩
   ·rw[hs.block _ (qm.1 k1).1 fun b' hb'=>?_]
    ·exact k1
    ·intro he
     refine h.inj b b' (by rw[hb];simp) (O b' hb') (fun he=>hc ?_) he.symm
     rw[he]
     exact hs.grows b' (E hb')
   ·obtain⟨k7,v',k8,k9⟩:=k5 i v hi
    exact⟨k7,v',k8,k9.mono (fun c hc=>(g3 c).2 (.inl hc)) fun c hc=>Z c hc⟩
 ·by_cases hc:M1'.Has b
  ·rw[g1 b hc]at hb
   rw[QQ hc]
   exact(h'.oth b x hb).mono (fun c hc=>(g3 c).2 (.inr hc)) fun c hc=>QQ hc
  ·rw[g2 b hc]at hb
   rw[QY hc]
   rw[hs.block _ (h.lt (by rw[hb];simp)) fun b' hb' he=>?_]
   ·exact(h.oth b x hb).mono (fun c hc=>(g3 c).2 (.inl hc)) fun c hc=>Z c hc
   ·refine h.inj b b' (by rw[hb];simp) (O b' hb') (fun he=>hc ?_) he.symm
    rw[he]
    exact hs.grows b' (E hb')
 ·by_cases hc:M1'.Has b<;>by_cases hc':M1'.Has b'
  ·rw[QQ hc,QQ hc']
   refine h'.inj b b' (by rw[←g1 b hc];exact hb) ?_ hne
   obtain⟨y,hx,U⟩:=hb'
   exact⟨y,by rw[←g1 b' hc'];exact hx,U⟩
  ·rw[QQ hc,QY hc']
   have a6:M.Own b':=by
    obtain⟨y,hx,U⟩:=hb'
    exact⟨y,by rw[←g2 b' hc'];exact hx,U⟩
   have hl:M1'.get b≠none:=by rw[←g1 b hc];exact hb
   rcases h2 b hc with h5|h5
   ·rw[hs.at_ b h5]
    refine h.inj b b' ?_ a6 hne
    rw[←(h1 b h5).2]
    exact h3 b h5 hl
   ·rcases hs.own b (h4 b hc h5 hl)with h6|⟨Y,h6,h7⟩
    ·have:=h.lt (I a6)
     intro he;omega
    ·rw[←h7]
     intro he
     refine h.inj b' Y (I a6) (O _ h6) (fun e=>hc' ?_) he.symm
     rw[e];exact hs.grows _ (E h6)
  ·rw[QY hc,QQ hc']
   have hl:M.get b≠none:=by rw[←g2 b hc];exact hb
   have a6:M1'.Own b':=by
    obtain⟨y,hx,U⟩:=hb'
    exact⟨y,by rw[←g1 b' hc'];exact hx,U⟩
   rcases hs.own b' a6 with h6|⟨Y,h6,h7⟩
   ·have:=h.lt hl
    intro he;omega
   ·rw[←h7]
    refine h.inj b Y hl (O _ h6) fun e=>hc ?_
    rw[e];exact hs.grows _ (E h6)
  ·rw[QY hc,QY hc']
   refine h.inj b b' (by rw[←g2 b hc];exact hb) ?_ hne
   obtain⟨y,hx,U⟩:=hb'
   exact⟨y,by rw[←g2 b' hc'];exact hx,U⟩
 ·by_cases hc:M1'.Has b
  ·rw[QQ hc]
   exact h'.glob.own b ⟨y,by rw[←g1 b hc];exact hb,U⟩
  ·rw[QY hc]
   exact h.glob.own b ⟨y,by rw[←g2 b hc];exact hb,U⟩
 ·exact hs.block g hg fun b hb=>ho b (O b hb)
 ·by_cases hc:M1'.Has b
  ·rw[QQ hc]
   have ho:M1'.Own b:=by
    obtain⟨y,hx,U⟩:=hb
    exact⟨y,by rw[←g1 b hc];exact hx,U⟩
   rcases hs.own b ho with h6|⟨Y,h6,h7⟩
   ·exact .inl h6
   ·exact .inr ⟨Y,O _ h6,h7⟩
  ·rw[QY hc]
   obtain⟨y,hx,U⟩:=hb
   exact .inr ⟨b,⟨y,by rw[←g2 b hc];exact hx,U⟩,rfl⟩
def ZK:Option Blk→Bool|some x=>x.own|none=>true
section
variable (P : Program) (ops : Array Oper) (a₀ : List Value) (m : Mem) (v : Nat → Value) (N : Nat → List (Option Blk))
def Ud(k:Nat):List Value:=Jd ops v (B ops k) a₀ k
def Xc(k:Nat):Mem:=Js m N (B ops k) k
def memOf(k:Nat):Mem:=(Xc ops m N k).app (N k)
def DOp(k:Nat)(o:Oper):Prop:=
 if Region.wanted o (JO ops.toList (Ud ops a₀ v k))=true then OpOK P o (Ud ops a₀ v k) (Xc ops m N k) (v k) (memOf ops m N k)∧(N k).all ZK=true
 else v k=undef∧N k=[]
end
section
variable {P : Program} {ops : Array Oper} {a₀ : List Value} {m : Mem} {v : Nat → Value} {N : Nat → List (Option Blk)}
theorem UJ(k:Nat):memOf ops m N k=Js m N (fun j=>B ops k j||j==k) (k+1):=memAt_own _ _
theorem VE(k b:Nat):(memOf ops m N k).Has b↔m.Has b∨(∃j,j<k∧B ops k j=true∧IsNew m N j b)∨IsNew m N k b:=by
 rw[UJ,JI]
 constructor
 ·rintro(h|⟨j,I,h2,E⟩)
  ·exact .inl h
  ·by_cases e:j=k
   ·subst e;exact .inr (.inr E)
   ·have:(j==k)=false:=by simp[e]
    rw[this,qw]at h2
    exact .inr (.inl ⟨j,by omega,h2,E⟩)
 ·rintro(h|⟨j,I,h2,E⟩|h)
  ·exact .inl h
  ·exact .inr ⟨j,by omega,by simp[h2],E⟩
  ·exact .inr ⟨k,by omega,by simp,h⟩
theorem memOf_get(k b:Nat)(x:Blk):(memOf ops m N k).get b=some x↔(b<m.size∧m.get b=some x)∨(∃j,j<k∧B ops k j=true∧m.size+off N j≤b∧(N j)[b-(m.size+off N j)]?=some (some x))∨(m.size+off N k≤b∧(N k)[b-(m.size+off N k)]?=some (some x)):=by
 rw[UJ,QX]
 constructor
 ·rintro(h|⟨j,O,h2,E,I⟩)
  ·exact .inl h
  ·by_cases e:j=k
   ·subst e;exact .inr (.inr ⟨E,I⟩)
   ·have:(j==k)=false:=by simp[e]
    rw[this,qw]at h2
    exact .inr (.inl ⟨j,by omega,h2,E,I⟩)
 ·rintro(h|⟨j,O,h2,E,I⟩|⟨E,I⟩)
  ·exact .inl h
  ·exact .inr ⟨j,by omega,by simp[h2],E,I⟩
  ·exact .inr ⟨k,by omega,by simp,E,I⟩
theorem memAt_get_mono{S T:Nat→Bool}{i n:Nat}(hin:i≤n)(h:∀j,j<i→S j=true→T j=true){b:Nat}{x:Blk}(hb:(Js m N S i).get b=some x):(Js m N T n).get b=some x:=by
 rw[QX]at hb ⊢
 rcases hb with hb|⟨k,I,h2,E⟩
 ·exact .inl hb
 ·exact .inr ⟨k,by omega,h k I h2,E⟩
theorem Zu{S T:Nat→Bool}{i n:Nat}(hin:i≤n)(h:∀j,j<i→S j=true→T j=true){b:Nat}(hb:(Js m N S i).Has b):(Js m N T n).Has b:=by
 rw[JI]at hb ⊢
 rcases hb with hb|⟨k,I,h2,E⟩
 ·exact .inl hb
 ·exact .inr ⟨k,by omega,h k I h2,E⟩
theorem U9{S T:Nat→Bool}{i n:Nat}(hin:i≤n)(h:∀j,j<i→S j=true→T j=true){b:Nat}(hb:(Js m N S i).Has b):(Js m N S i).get b=(Js m N T n).get b:=by
 cases hx:(Js m N T n).get b with
 |some x=>
  rw[QX]at hx ⊢
  rcases hx with hx|⟨k,U,h2,E,I⟩
  ·exact .inl hx
  ·rcases(JI _ _ _).1 hb with h5|⟨j,h5,h6,h7⟩
   ·have:=Mem.has_lt h5;omega
   ·have O:IsNew m N k b:=⟨E,by have:=(List.getElem?_eq_some_iff.1 I).1;omega⟩
    have:=h7.unique O
    subst this
    exact .inr ⟨j,h5,h6,E,I⟩
 |none=>
  cases hy:(Js m N S i).get b with
  |none=>rfl
  |some y=>rw[memAt_get_mono hin h hy]at hx;cases hx
theorem newsAt_congr'{S T:Nat→Bool}:∀n,(∀k,k<n→S k=T k∨N k=[])→Q8 N S n=Q8 N T n
 |0,_=>rfl
 |n+1,h=>by
  simp only[Q8,newsAt_congr' n fun k hk=>h k (by omega)]
  rcases h n (by omega)with h|h<;>rw[h]
  rfl
theorem Kp:∀(S:Nat→Bool)(n t:Nat)(x:Value),(Jd ops v S a₀ n)[t]?=some x→a₀[t]?=some x∨∃j,j<n∧S j=true∧x=v j
 |S,0,t,x,h=>.inl h
 |S,n+1,t,x,h=>by
  simp only[Jd]at h
  split at h
  ·rename_i hS
   by_cases hd:(ops[n]?).bind (·.dst)=some t
   ·rw[hd]at h
    simp only[QV]at h
    rw[List.getElem?_set]at h
    simp only[if_true]at h
    split at h
    ·exact .inr ⟨n,by omega,hS,by simpa using h.symm⟩
    ·cases h
   ·rw[aPut_get _ _ _ _ hd]at h
    rcases Kp S n t x h with h|⟨j,h1,h2⟩
    ·exact .inl h
    ·exact .inr ⟨j,by omega,h2⟩
  ·rcases Kp S n t x h with h|⟨j,h1,h2⟩
   ·exact .inl h
   ·exact .inr ⟨j,by omega,h2⟩
theorem VX(S:Nat→Bool):∀n,(Jd ops v S a₀ n).length=a₀.length
 |0=>rfl
 |n+1=>by simp only[Jd];split<;>simp[aPut_length,VX S n]
structure Inv(ops:Array Oper)(a₀:List Value)(m:Mem)(v:Nat→Value)(N:Nat→List (Option Blk))(q:Nat)(ι₀:Nat→Loc)(m₀:Mem)(w₀:World)(S:Nat→Bool)(κ:Nat→Loc)(act:Act)(w:World):Prop where
 down:Down ops S
 low:∀k,q≤k→S k=false
 frame:ARel (Js m N S q).Has κ (Jd ops v S a₀ q) act
 rel:Rel κ (Js m N S q) w
 step:Step ι₀ m₀ w₀ κ (Js m N S q) w
 vals:∀k,k<q→S k=true→Cl (memOf ops m N k).Has (v k)
 blks:∀k,k<q→S k=true→∀x,some x∈N k→ClBlk (memOf ops m N k).Has x
theorem Zo(o:Oper){f g:Nat→Option Bool}(h:∀i b,o.guard=some (i,b)→f i=g i):Region.wanted o f=Region.wanted o g:=by
 unfold Region.wanted
 cases hg:o.guard with
 |none=>rfl
 |some p=>obtain⟨i,b⟩:=p;simp only[h i b hg]
theorem Inv.op{q:Nat}{ι₀:Nat→Loc}{m₀:Mem}{w₀:World}{S:Nat→Bool}{κ:Nat→Loc}{act:Act}{w:World}{Q:Exit→Act→World→Prop}(h:Inv ops a₀ m v N q ι₀ m₀ w₀ S κ act w)
 (hq:Xy ops q=true) (hqs:q≤ops.size) (ha₀:∀(t:Nat)(x:Value),a₀[t]?=some x→Cl m.Has x) (hm:∀b x,m.get b=some x→ClBlk m.Has x)
 {i:Nat} {o:Oper} (hi:ops[i]?=some o) (hiq:i<q) (hS:S i=false) (hall:∀e∈o.after,Region.binds .any e=true→S e.on=true) (hd:DOp P ops a₀ m v N i o)
 {K:Act→World→Prop} (hK:∀κ' act' w',Inv ops a₀ m v N q ι₀ m₀ w₀ (fun k=>S k||k==i) κ' act' w'→K act' w'):
 wpOp P ops Q i K act w:=by
 simp only[Xy,qj]at hq
 obtain⟨⟨aw,a8⟩,ag⟩:=hq
 have Y:∀j,B ops i j=true→S j=true:=fun j hj=>h.down.bef i o hi hall j hj
 have ao:i<ops.size:=by omega
 have ah:∀t,t∈o.looksAt ops→∀k,k<q→(ops[k]?).bind (·.dst)=some t→S k=true→k<i∧B ops i k=true:=by
  intro t ht k O I E
  cases Z:ops[k]? with
  |none=>rw[Z]at I;cases I
  |some ok=>
   rw[Z]at I
   simp only[Option.bind_some]at I
   rcases qx k i with aq|aA|aC
   ·refine⟨aq,?_⟩
    cases hb:B ops i k
    ·exact absurd ht ((Oper.apart_spec (Qr ag aq hiq Z hi hb)).1 t I)
    ·rfl
   ·subst aA;rw[E]at hS;cases hS
   ·exfalso
    cases hb:B ops k i
    ·exact absurd ht ((Oper.apart_spec (Qr ag aC O hi Z hb)).2.2 t I)
    ·have:=h.down.bef k ok Z (h.down k ok Z E) i hb
     rw[hS]at this;cases this
 have af:∀t,t∈o.looksAt ops→(Jd ops v S a₀ q)[t]?=(Ud ops a₀ v i)[t]?:=by
  intro t ht
  have e1:(Jd ops v S a₀ q)[t]?=(Jd ops v (fun k=>B ops i k&&decide (k<i)) a₀ q)[t]?:=Q6 t q fun k O I=>by
   cases E:S k
   ·cases hb:B ops i k
    ·simp
    ·rw[Y k hb]at E;cases E
   ·obtain⟨h1,h2⟩:=ah t ht k O I E
    simp[h1,h2]
  rw[e1,ZA (i:=i) q (by omega) (fun k h1 _=>by simp;omega)]
  exact Q6 t i fun k O _=>by simp[O]
 have hw:Region.wanted o (yielded ops act.tmps)=Region.wanted o (JO ops.toList (Ud ops a₀ v i)):=by
  refine Zo o fun g b hg=>?_
  rw[Va h.frame ops g]
  unfold JO
  simp only[qy]
  cases hog:ops[g]? with
  |none=>rfl
  |some og=>
   cases hdg:og.dst with
   |none=>simp[hdg]
   |some t=>
    simp only[hdg]
    rw[af t (by simp[Oper.looksAt,hg,hog,hdg])]
 have a2:∀j,j<q→S j=true→(S j||j==i)=true:=fun j _ hj=>by simp[hj]
 have hB:∀j,j<i→B ops i j=true→S j=true:=fun j _ hj=>Y j hj
 have ak:∀j,j<i+1→(B ops i j||j==i)=true→(S j||j==i)=true:=fun j _ hj=>by
  rcases qi _ _▸hj with hj|hj
  ·simp[Y j hj]
  ·simp[hj]
 have I:∀k,i<k→k<q→S k=true→∀t,(ops[i]?).bind (·.dst)=some t→(ops[k]?).bind (·.dst)≠some t:=by
  intro k aB ay E t ht av
  have O:ops[k]?=some ops[k]:=qe (by omega)
  rw[hi]at ht
  rw[O]at av
  cases hb:B ops k i
  ·exact(Oper.apart_spec (Qr ag aB ay hi O hb)).2.1 t ht av
  ·have:=h.down.bef k _ O (h.down k _ O E) i hb
   rw[hS]at this;cases this
 have ad:Down ops (fun k=>S k||k==i):=by
  intro k ok O E e he hb
  simp only[qi,beq_iff_eq]at E ⊢
  rcases E with E|rfl
  ·exact .inl (h.down k ok O E e he hb)
  ·rw[hi]at O;cases O
   exact .inl (hall e he hb)
 have ae:∀k,q≤k→(S k||k==i)=false:=fun k O=>by
  have:(k==i)=false:=by simp;omega
  simp[h.low k O,this]
 unfold wpOp
 simp only[hi]
 rw[hw]
 unfold DOp at hd
 split
 ·rename_i hwant
  rw[if_pos hwant]at hd
  obtain⟨Z,ar⟩:=hd
  refine .inl ?_
  have ai:Rel κ (Xc ops m N i) w:=by
   refine h.rel.part (fun b x hb=>memAt_get_mono (by omega) hB hb) fun b x hb=>?_
   rcases(QX _ _ _ _).1 hb with⟨_,hb'⟩|⟨k,h1,h2,h3,h4⟩
   ·exact(hm b x hb').mono fun b' hb'=>(JI _ _ _).2 (.inl hb')
   ·refine(h.blks k (by omega) (Y k h2) _ (qE h4)).mono fun b' hb'=>(JI _ _ _).2 ?_
    rcases(VE k b').1 hb' with h5|⟨j,h5,U,h7⟩|h5
    ·exact .inl h5
    ·exact .inr ⟨j,by omega,B_trans a8 ao h2 U,h7⟩
    ·exact .inr ⟨k,h1,h2,h5⟩
  have aG:∀(t:Nat)(x:Value),(Ud ops a₀ v i)[t]?=some x→Cl (Xc ops m N i).Has x:=by
   intro t x hx
   rcases Kp _ _ t x hx with hx|⟨k,h1,h2,rfl⟩
   ·exact(ha₀ t x hx).mono fun b' hb'=>(JI _ _ _).2 (.inl hb')
   ·refine(h.vals k (by omega) (Y k h2)).mono fun b' hb'=>(JI _ _ _).2 ?_
    rcases(VE k b').1 hb' with h5|⟨j,h5,U,h7⟩|h5
    ·exact .inl h5
    ·exact .inr ⟨j,by omega,B_trans a8 ao h2 U,h7⟩
    ·exact .inr ⟨k,h1,h2,h5⟩
  let fm:Nat→Bool:=fun t=>(o.looksAt ops).contains t
  let act':Act:={ act with tmps:=(maskL fm act.tmps.toList).toArray }
  have an:(Ud ops a₀ v i).length=act.tmps.toList.length:=by
   rw[←h.frame.tmps.1]
   unfold Ud
   rw[VX,VX]
  have aD:ARel (Xc ops m N i).Has κ (maskL fm (Ud ops a₀ v i)) act':=by
   refine⟨h.frame.defers,by simp only[act',maskL_length,List.toList_toArray];exact an,fun t x y hx hy=>?_⟩
   simp only[act',List.toList_toArray]at hy
   rw[maskL_get]at hx hy
   cases hfm:fm t
   ·simp only[hfm,Bool.false_eq_true,if_false,Option.map_eq_some_iff]at hx hy
    obtain⟨_,_,rfl⟩:=hx
    obtain⟨_,_,rfl⟩:=hy
    exact Xt
   ·simp only[hfm,if_true,Option.map_id']at hx hy
    have ht:t∈o.looksAt ops:=by simpa[fm]using hfm
    exact(aG t x hx).rel (h.frame.tmps.2 t x y (by rw[af t ht];exact hx) hy)
  have ac:∀t,Operand.tmp t∈o.op.operands→fm t=true:=fun t ht=>by
   simp only[fm,List.contains_iff_mem,Oper.looksAt,List.mem_append,List.mem_filterMap]
   exact .inl ⟨.tmp t,by simpa using ht,rfl⟩
  have aE:∀x∈o.op.operands,JG (Ud ops a₀ v i) x=JG (maskL fm (Ud ops a₀ v i)) x:=by
   intro x hx
   cases x with
   |tmp t=>simp only[JG,maskL_get,ac t hx,if_true,Option.map_id']
   |_=>rfl
  have aI:execOp act.eval o=execOp act'.eval o:=by
   refine execOp_congr o (fun cs b=>Region.noSelect_spec aw i o cs b hi) fun x hx=>?_
   cases x with
   |tmp t=>
    have:act'.tmps[t]?=act.tmps[t]?:=by
     simp only[act',List.getElem?_toArray,maskL_get,ac t hx,if_true,Option.map_id',qy]
    simp only[Act.eval,qf,this]
   |_=>rfl
  refine Z _ κ act' act w _ _ aE aD ai aI ?_
  rintro _ _ v' w' κ' ⟨rfl,rfl⟩ hv am aH
  have ax:=part_step (M:=Js m N S q) (M':=Js m N (fun k=>S k||k==i) q) h.rel am aH
   (fun b hb=>⟨Zu (by omega) hB hb,U9 (by omega) hB hb⟩)
   (fun b hb=>by
    rcases(VE i b).1 hb with h5|⟨j,h5,U,h7⟩|h5
    ·exact .inl ((JI _ _ _).2 (.inl h5))
    ·exact .inl ((JI _ _ _).2 (.inr ⟨j,h5,U,h7⟩))
    ·refine .inr fun hb=>?_
     rcases(JI _ _ _).1 hb with U|⟨k,_,h7,h8⟩
     ·exact new_has h5 U
     ·have:=h8.unique h5
      subst this
      rw[hS]at h7;cases h7)
   (fun b hb hl=>by
    rw[UJ]at hl
    rw[show Xc ops m N i=Js m N (B ops i) i from rfl,U9 (T:=fun j=>B ops i j||j==i) (n:=i+1) (by omega) (fun j _ hj=>by simp[hj]) hb]
    exact hl)
   (fun b hb hnb hl=>by
    obtain⟨x,hx⟩:=qq.1 hl
    rcases(memOf_get i b x).1 hx with⟨_,h5⟩|⟨j,h5,U,h7,h8⟩|⟨h5,U⟩
    ·exact absurd ((JI _ _ _).2 (.inl (Mem.get_has h5))) hnb
    ·exact absurd ((JI _ _ _).2 (.inr ⟨j,by omega,Y j U,h7,by have:=(List.getElem?_eq_some_iff.1 h8).1;omega⟩)) hnb
    ·have:=qu.1 ar (some x) (qE U)
     exact⟨x,hx,this⟩)
   (fun b hb=>by
    rw[UJ]at hb ⊢
    exact(U9 (by omega) ak hb).symm)
   (fun b hb=>by
    by_cases hMb:(Js m N S q).Has b
    ·exact(U9 (qh _) a2 hMb).symm
    ·have e1:(Js m N S q).get b=none:=by
      cases hg:(Js m N S q).get b with
      |none=>rfl
      |some x=>exact absurd (Mem.get_has hg) hMb
     rw[e1]
     cases hg:(Js m N (fun k=>S k||k==i) q).get b with
     |none=>rfl
     |some x=>
      exfalso
      rcases(JI _ _ _).1 (Mem.get_has hg)with h5|⟨k,h5,U,h7⟩
      ·exact hMb ((JI _ _ _).2 (.inl h5))
      ·simp only[qi,beq_iff_eq]at U
       rcases U with U|rfl
       ·exact hMb ((JI _ _ _).2 (.inr ⟨k,h5,U,h7⟩))
       ·exact hb ((VE k b).2 (.inr (.inr h7))))
   (fun b=>by
    constructor
    ·intro hb
     rcases(JI _ _ _).1 hb with h5|⟨k,h5,U,h7⟩
     ·exact .inl ((JI _ _ _).2 (.inl h5))
     ·simp only[qi,beq_iff_eq]at U
      rcases U with U|rfl
      ·exact .inl ((JI _ _ _).2 (.inr ⟨k,h5,U,h7⟩))
      ·exact .inr ((VE k b).2 (.inr (.inr h7)))
    ·rintro(hb|hb)
     ·exact Zu (qh _) a2 hb
     ·rw[UJ]at hb
      exact Zu (by omega) ak hb)
  obtain⟨ap,a6⟩:=ax
  refine hK _ _ w' ⟨ad,ae,?_,ap,h.step.trans a6,fun k O E=>?_,fun k O E x hx=>?_⟩
  ·rw[frameAt_add hS q hiq I,hi]
   refine(h.frame.mono a6.grows a6.at_).put' o.dst (hv.mono (fun b hb=>?_) fun b hb=>QQ hb)
   rw[UJ]at hb
   exact Zu (by omega) ak hb
  ·simp only[qi,beq_iff_eq]at E
   rcases E with E|rfl
   ·exact h.vals k O E
   ·exact hv.cl
  ·simp only[qi,beq_iff_eq]at E
   rcases E with E|rfl
   ·exact h.blks k O E x hx
   ·obtain⟨r,hr,aF⟩:=List.getElem_of_mem hx
    have hg:(memOf ops m N k).get (m.size+off N k+r)=some x:=(memOf_get k _ x).2 (.inr (.inr ⟨by omega,by rw[show m.size+off N k+r-(m.size+off N k)=r by omega,List.getElem?_eq_getElem hr,aF]⟩))
    exact am.clBlk _ x hg
 ·rename_i hwant
  rw[if_neg hwant]at hd
  obtain⟨hv,hN⟩:=hd
  have aa:Js m N (fun k=>S k||k==i) q=Js m N S q:=by
   unfold Js
   rw[newsAt_congr' q fun k O=>?_]
   by_cases e:k=i
   ·subst e;exact .inr hN
   ·have:(k==i)=false:=by simp[e]
    exact .inl (by simp[this])
  refine hK κ _ w ⟨ad,ae,?_,by rw[aa];exact h.rel,by rw[aa];exact h.step,fun k O E=>?_,fun k O E x hx=>?_⟩
  ·rw[frameAt_add hS q hiq I,hi,aa,hv]
   exact h.frame.put' o.dst Xt
  ·simp only[qi,beq_iff_eq]at E
   rcases E with E|rfl
   ·exact h.vals k O E
   ·rw[hv];exact(Xt (ι:=κ)).cl
  ·simp only[qi,beq_iff_eq]at E
   rcases E with E|rfl
   ·exact h.blks k O E x hx
   ·rw[hN]at hx;cases hx
end
end
section
variable [Defs]
def XI(f:Nat→Bool):Nat→Nat
 |0=>0
 |n+1=>XI f n+if f n then 0 else 1
theorem ZQ{f:Nat→Bool}{i:Nat}(hf:f i=false):∀n,i<n→XI (fun k=>f k||k==i) n+1=XI f n:=by
 have low:∀n,n≤i→XI (fun k=>f k||k==i) n=XI f n:=by
  intro n
  induction n with
  |zero=>intro _;rfl
  |succ n ih=>
   intro h
   have E:(n==i)=false:=by simp;omega
   simp only[XI,E,qw,ih (by omega)]
 intro n
 induction n with
 |zero=>intro h;omega
 |succ n ih=>
  intro h
  by_cases e:n=i
  ·subst e
   simp only[XI,hf,beq_self_eq_true,Bool.or_true,if_true,Bool.false_eq_true,if_false,low n (qh _)]
  ·have E:(n==i)=false:=by simp;omega
   have:=ih (by omega)
   simp only[XI,E,qw]
   omega
theorem UM{f:Nat→Bool}{i:Nat}(hf:f i=false):∀n,i<n→0<XI f n
 |n+1,h=>by
  by_cases e:n=i
  ·subst e;simp[XI,hf]
  ·have:=UM hf n (by omega)
   simp only[XI];omega
theorem VV:∀n,XI (fun _=>false) n=n
 |0=>rfl
 |n+1=>by simp[XI,VV n]
theorem exists_first{f:Nat→Bool}:∀n,(∃k,k<n∧f k=false)→∃k,k<n∧f k=false∧∀j,j<k→f j=true:=by
 intro n
 induction n with
 |zero=>rintro⟨k,h,_⟩;omega
 |succ n ih=>
  rintro⟨k,h,I⟩
  by_cases h':∃k,k<n∧f k=false
  ·obtain⟨j,O,h2,E⟩:=ih h'
   exact⟨j,by omega,h2,E⟩
  ·refine⟨k,h,I,fun j hj=>?_⟩
   cases hf:f j
   ·exact absurd ⟨j,by omega,hf⟩ h'
   ·rfl
section
variable {P : Program} {ops : Array Oper} {a₀ : List Value} {m : Mem} {v : Nat → Value} {N : Nat → List (Option Blk)}
def JV(listed:Array Bool)(k:Nat):Bool:=listed.getD k false
theorem Xk{listed:Array Bool}{i:Nat}(hi:i<listed.size):JV (listed.setIfInBounds i true)=fun k=>JV listed k||k==i:=by
 funext k
 unfold JV
 by_cases e:k=i
 ·subst e;simp[hi]
 ·have E:(k==i)=false:=by simp[e]
  rw[getD_set_ne false (Ne.symm e),E,qw]
theorem XQ{listed:Array Bool}(hsz:listed.size=ops.size){j:Nat}:j∈Region.ready .any ops listed↔j<ops.size∧JV listed j=false∧∃o,ops[j]?=some o∧∀e∈o.after,Region.binds .any e=true→JV listed e.on=true:=by
 rw[mem_ready]
 constructor
 ·rintro⟨E,o,I,h2⟩
  have O:=(qm.1 I).1
  refine⟨O,?_,o,I,h2⟩
  unfold JV
  rw[←E]
  simp[qf,qe (show j<listed.size by omega)]
 ·rintro⟨O,E,o,I,h2⟩
  refine⟨?_,o,I,h2⟩
  unfold JV at E
  rw[←E]
  simp[qf,qe (show j<listed.size by omega)]
theorem ZO{listed:Array Bool}(hsz:listed.size=ops.size)(he:XT ops.toList=true)(h:∃k,k<ops.size∧JV listed k=false):Region.ready .any ops listed≠ []:=by
 obtain⟨k,E,h2,I⟩:=exists_first _ h
 intro O
 have:k∈Region.ready .any ops listed:=(XQ hsz).2 ⟨E,h2,ops[k],qe E,fun e hm hb=>I _ (XM he (qe E) hm hb)⟩
 rw[O]at this
 cases this
theorem tail_run{q:Nat}(hq:Ql ops q=true){Q:Exit→List Value→Mem→Prop}{ι₀:Nat→Loc}{m₀:Mem}{w₀:World}:∀(l:List Oper)(k:Nat)(hk:q≤k)(hl:ops.toList.drop k=l)(fuel:Nat)(listed:Array Bool)(hsz:listed.size=ops.size)
 (hlist:∀j,j<ops.size→JV listed j=decide (j<k)) (hfuel:XI (JV listed) ops.size≤fuel) (a:List Value) (m:Mem),Xq P ops.toList (Q .normal) l a m→∀(ι:Nat→Loc)(act:Act)(w:World),Step ι₀ m₀ w₀ ι m w→ARel m.Has ι a act→Rel ι m w→
 wpAny P .any ops (K6 ι₀ m₀ w₀ Q) fuel listed act w:=by
 have aG:=hq
 simp only[Ql,qj]at hq
 obtain⟨⟨⟨ay,a2⟩,az⟩,ae⟩:=hq
 intro l
 induction l with
 |nil=>
  intro k hk hl fuel listed hsz hlist hfuel a m h ι act w hs ha hr
  have a7:ops.size≤k:=by
   have:=congrArg List.length hl
   simp at this;omega
  have ah:Region.ready .any ops listed=[]:=by
   apply List.eq_nil_iff_forall_not_mem.2
   intro j hj
   obtain⟨h1,h2,_⟩:=(XQ hsz).1 hj
   rw[hlist j h1]at h2
   simp at h2;omega
  have a8:K6 ι₀ m₀ w₀ Q .normal act w:=⟨ι,a,m,h,ha,hr,hs⟩
  cases fuel with
  |zero=>exact⟨ah,a8⟩
  |succ fuel=>exact⟨fun _=>a8,fun i hi=>by rw[ah]at hi;cases hi⟩
 |cons o l ih=>
  intro k hk hl fuel listed hsz hlist hfuel a m h ι act w hs ha hr
  have a7:k<ops.size:=by
   have:=congrArg List.length hl
   simp at this;omega
  have ak:ops[k]?=some o:=by
   have:=congrArg (fun l=>l[0]?) hl
   simpa using this
  have Y:JV listed k=false:=by rw[hlist k a7];simp
  have ax:=UM Y ops.size a7
  cases fuel with
  |zero=>omega
  |succ fuel=>
   refine⟨fun hn=>absurd hn (ZO hsz a2 ⟨k,a7,Y⟩),fun i hi=>?_⟩
   obtain⟨ac,al,oi,ad,ag⟩:=(XQ hsz).1 hi
   have ap:i=k:=by
    rw[hlist i ac]at al
    have aJ:k≤i:=by simpa using al
    rcases qp k i with an|aK
    ·exfalso
     have hd:Down ops (JV listed):=by
      intro x ox hx ai e hm hb
      have aw:=(qm.1 hx).1
      rw[hlist x aw]at ai
      have aM:=XM a2 hx hm hb
      rw[hlist _ (by omega)]
      simp at ai ⊢;omega
     have:=hd.bef i oi ad ag k (Vs ae ac (by omega) an)
     rw[Y]at this;cases this
    ·omega
   subst ap
   rw[ak]at ad;cases ad
   have O:∀(a':List Value)(m':Mem)(κ:Nat→Loc)(U:Act)(w':World),Xq P ops.toList (Q .normal) l a' m'→Step ι₀ m₀ w₀ κ m' w'→ARel m'.Has κ a' U→Rel κ m' w'→wpAny P .any ops (K6 ι₀ m₀ w₀ Q) fuel (listed.setIfInBounds i true) U w':=by
    intro a' m' κ U w' h' E a6 Z
    refine ih (i+1) (by omega) ?_ fuel _ (by simp[hsz]) (fun j hj=>?_) ?_ a' m' h' κ U w' E a6 Z
    ·have:=congrArg (List.drop 1) hl
     simpa using this
    ·rw[Xk (by omega)]
     simp only[hlist j hj]
     by_cases e:j=i
     ·subst e;simp
     ·have aq:(j==i)=false:=by simp[e]
      rw[aq,qw]
      congr 1
      apply propext
      omega
    ·have:=ZQ Y ops.size a7
     rw[Xk (by omega)]
     omega
   have hy:yielded ops act.tmps=JO ops.toList a:=funext fun j=>Va ha ops j
   simp only[Xq]at h
   unfold wpOp
   simp only[ak,hy]
   split at h
   ·rename_i hw
    rw[if_pos hw]
    left
    unfold Oper.wp
    replace h:(∃v m',OSim P ι m w o act v m'∧Xq P ops.toList (Q .normal) l (QV a o.dst v) m')∨(∃k xs R,Xl a o.op=some (k,xs)∧Qg P k=true∧Spec P k xs m R∧∀v m',R v m'→Xq P ops.toList (Q .normal) l (QV a o.dst v) m'):=by
     rcases h with⟨v,m',h1,h2⟩|h|⟨R,h1,h2⟩
     ·exact .inl ⟨v,m',evOp_run hr ha h1,h2⟩
     ·exact .inr h
     ·obtain⟨v,m',h3,h4⟩:=evAny_run hr ha h1
      exact .inl ⟨v,m',h4,h2 v m' h3⟩
    rcases h with⟨v,m',h1,h2⟩|⟨f,xs,R,h1,he,av,h2⟩
    ·obtain⟨v',w',κ,I,hv,Z,E⟩:=h1
     have a6:ARel m'.Has κ (QV a o.dst v) (act.put o.dst v'):=(ha.mono E.grows E.at_).put' o.dst hv
     have:=O _ _ κ _ w' h2 (hs.trans E) a6 Z
     rcases I with I|⟨I,rfl⟩
     ·rw[I,Oper.upon_value];exact this
     ·rw[I,Oper.upon_skip];exact this
    ·obtain⟨ys,ar,aj⟩:=Vu ha h1 he
     rw[aj w,Oper.upon_enter]
     refine(av ι w ys ar hr).mono ?_
     rintro e w' ⟨v,v',κ,m',hR,rfl,hv,Z,E⟩
     have a6:ARel m'.Has κ (QV a o.dst v) (act.put o.dst v'):=(ha.mono E.grows E.at_).put' o.dst hv
     exact O _ _ κ _ w' (h2 v m' hR) (hs.trans E) a6 Z
   ·rename_i hw
    rw[if_neg hw]
    exact O _ _ ι _ w h hs (ha.put' o.dst Xt) hr
def allS:Nat→Bool:=fun _=>true
theorem head_run{q:Nat}(hq:Ql ops q=true)(hqs:q≤ops.size)(ha₀:∀(t:Nat)(x:Value),a₀[t]?=some x→Cl m.Has x)(hm:∀b x,m.get b=some x→ClBlk m.Has x)
 (hd:∀i o,i<q→ops[i]?=some o→DOp P ops a₀ m v N i o) {Q:Exit→List Value→Mem→Prop} {ι₀:Nat→Loc} {m₀:Mem} {w₀:World}
 (ht:Xq P ops.toList (Q .normal) (ops.toList.drop q) (Jd ops v allS a₀ q) (Js m N allS q)):∀(fuel:Nat)(listed:Array Bool)(_:listed.size=ops.size)(_:XI (JV listed) ops.size≤fuel)(κ:Nat→Loc)(act:Act)(w:World),Inv ops a₀ m v N q ι₀ m₀ w₀ (JV listed) κ act w→
 wpAny P .any ops (K6 ι₀ m₀ w₀ Q) fuel listed act w:=by
 have aa:=hq
 simp only[Ql,qj]at hq
 obtain⟨⟨⟨ak,a7⟩,al⟩,ac⟩:=hq
 intro fuel
 induction fuel with
 |zero=>
  intro listed Y U κ act w h
  have E:∀j,j<q→JV listed j=true:=fun j hj=>by
   cases hg:JV listed j
   ·have:=UM hg ops.size (by omega);omega
   ·rfl
  have I:Js m N (JV listed) q=Js m N allS q:=by unfold Js;rw[Zs (T:=allS) q fun k hk=>E k hk]
  have ab:Jd ops v (JV listed) a₀ q=Jd ops v allS a₀ q:=by
   apply qt
   intro t
   exact Q6 t q fun k hk _=>E k hk
  refine tail_run aa _ q (qh _) rfl 0 listed Y (fun j hj=>?_) U _ _ ht κ act w (by rw[←I];exact h.step) (by rw[←I,←ab];exact h.frame) (by rw[←I];exact h.rel)
  rcases qp j q with O|Z
  ·rw[E j O];simp[O]
  ·rw[h.low j Z];simp;omega
 |succ fuel ih=>
  intro listed Y U κ act w h
  by_cases E:∀j,j<q→JV listed j=true
  ·have I:Js m N (JV listed) q=Js m N allS q:=by unfold Js;rw[Zs (T:=allS) q fun k hk=>E k hk]
   have ab:Jd ops v (JV listed) a₀ q=Jd ops v allS a₀ q:=by
    apply qt
    intro t
    exact Q6 t q fun k hk _=>E k hk
   refine tail_run aa _ q (qh _) rfl (fuel+1) listed Y (fun j hj=>?_) U _ _ ht κ act w (by rw[←I];exact h.step) (by rw[←I,←ab];exact h.frame) (by rw[←I];exact h.rel)
   rcases qp j q with O|Z
   ·rw[E j O];simp[O]
   ·rw[h.low j Z];simp;omega
  ·have ai:∃j,j<q∧JV listed j=false:=by
    rcases Classical.em (∃j,j<q∧JV listed j=false)with h'|h'
    ·exact h'
    ·refine absurd (fun j hj=>?_) E
     cases hg:JV listed j
     ·exact absurd ⟨j,hj,hg⟩ h'
     ·rfl
   obtain⟨j,hj,af⟩:=ai
   refine⟨fun hn=>absurd hn (ZO Y a7 ⟨j,by omega,af⟩),fun i hi=>?_⟩
   obtain⟨a6,ah,oi,a8,a2⟩:=(XQ Y).1 hi
   have ae:i<q:=by
    rcases qp i q with O|Z
    ·exact O
    ·exfalso
     have:=h.down.bef i oi a8 a2 j (Vs ac a6 Z (by omega))
     rw[af]at this;cases this
   refine h.op (QZ aa) hqs ha₀ hm a8 ae ah a2 (hd i oi ae a8) fun κ' act' w' h'=>?_
   refine ih _ (by simp[Y]) ?_ κ' act' w' (by rw[Xk (by omega)];exact h')
   have:=ZQ ah ops.size a6
   rw[Xk (by omega)]
   omega
theorem Zt{κ:Nat→Loc}{w:World}(n:Nat)(h:Rel κ m w):Rel κ (Js m N (fun _=>false) n) w:=by
 have I:∀b x,(Js m N (fun _=>false) n).get b=some x→m.get b=some x:=fun b x hb=>by
  rcases(QX _ _ _ _).1 hb with⟨_,E⟩|⟨k,_,E,_⟩
  ·exact E
  ·cases E
 refine⟨fun b ro s cs hb=>?_,fun b x hb=>(h.oth b x (I _ _ hb)).mono (fun c hc=>(JI _ _ _).2 (.inl hc)) fun _ _=>rfl,fun b b' hb hb'=>?_,⟨h.glob.known,fun b ⟨y,hb,O⟩=>h.glob.own b ⟨y,I _ _ hb,O⟩⟩⟩
 ·obtain⟨C,e,fz,E,h2,U,Y,h5,h6⟩:=h.at' b ro s cs (I _ _ hb)
  refine⟨C,e,fz,E,h2,U,Y,fun i v hi=>?_,h6⟩
  obtain⟨Z,v',h8,h9⟩:=h5 i v hi
  exact⟨Z,v',h8,h9.mono (fun c hc=>(JI _ _ _).2 (.inl hc)) fun _ _=>rfl⟩
 ·refine h.inj b b' ?_ ?_
  ·obtain⟨x,hx⟩:=qq.1 hb
   rw[I _ _ hx];simp
  ·obtain⟨y,hx,O⟩:=hb'
   exact⟨y,I _ _ hx,O⟩
theorem AW_draw{id:Nat}{Q:Exit→List Value→Mem→Prop}(hmix:P.follows .mixedOrders=true)(q:Nat)(hq:Ql ops q=true)(hqs:q≤ops.size)
 (v:Nat→Value) (N:Nat→List (Option Blk)) (hd:∀i o,i<q→ops[i]?=some o→DOp P ops a₀ m v N i o)
 (ht:Xq P ops.toList (Q .normal) (ops.toList.drop q) (Jd ops v allS a₀ q) (Js m N allS q)):AW P (.region id ops true) Q a₀ m:=by
 intro ι₀ m₀ w₀ ι act w hs ha E
 refine wp_region_any hmix ?_
 have U:Rel ι m { w with drawn:=w.drawn+1 }:=⟨E.at',E.oth,E.inj,⟨E.glob.known.keep fun _ _=>rfl,E.glob.own⟩⟩
 have Z:Step ι₀ m₀ w₀ ι m { w with drawn:=w.drawn+1 }:=⟨hs.os,hs.tape,hs.output,hs.size,hs.grows,hs.at_,hs.block,hs.own⟩
 have a2:∀(t:Nat)(x:Value),a₀[t]?=some x→Cl m.Has x:=fun t x hx=>by
  obtain⟨y,_,hy⟩:=ha.tmps.get hx
  exact hy.cl
 have Y:=E.clBlk
 have I:JV (qF ops.size false)=fun _=>false:=by
  funext k
  unfold JV
  rw[qf,qv]
  split<;>rfl
 have O:∀n,Jd ops v (fun _=>false) a₀ n=a₀:=by
  intro n
  induction n with
  |zero=>rfl
  |succ n ih=>simp[Jd,ih]
 refine head_run hq hqs a2 Y hd ht ops.size _ (by simp) (by rw[I,VV];exact qh _) ι act _ ?_
 rw[I]
 refine⟨fun k o _ h=>absurd h (by simp),fun _ _=>rfl,?_,Zt q U,?_,fun k _ h=>absurd h (by simp),fun k _ h=>absurd h (by simp)⟩
 ·rw[O]
  exact ha.mono (fun c hc=>(JI _ _ _).2 (.inl hc)) fun _ _=>rfl
 ·refine Z.trans ⟨rfl,rfl,rfl,qh _,fun b hb=>(JI _ _ _).2 (.inl hb),fun _ _=>rfl,fun _ _ _=>rfl,fun b hb=>.inr ⟨b,?_,rfl⟩⟩
  obtain⟨y,hx,hy⟩:=hb
  rcases(QX _ _ _ _).1 hx with⟨_,h1⟩|⟨k,_,h1,_⟩
  ·exact⟨y,h1,hy⟩
  ·cases h1
end
end
section
variable [Defs]
section
variable {P : Program} {ops : Array Oper} {a₀ : List Value} {m : Mem} {v : Nat → Value} {N : Nat → List (Option Blk)}
def drawOK2(ops:Array Oper)(q:Nat):Bool:=
 Ql ops (q+1)&&qo q ops.size&&(qH q).all (fun j=>B ops q j||match ops[j]? with
  |some o=>still o.op&&o.guard.isNone
  |none=>false)&&match ops[q]? with
  |some o=>noCall o.op&&o.guard.isNone
  |none=>false
theorem drawOK2_spec{q:Nat}(h:drawOK2 ops q=true):Ql ops (q+1)=true∧q<ops.size∧(∀j o,j<q→ops[j]?=some o→B ops q j=false→still o.op=true∧o.guard=none)∧∃oq,ops[q]?=some oq∧noCall oq.op=true∧oq.guard=none:=by
 simp only[drawOK2,qj]at h
 obtain⟨⟨⟨O,h2⟩,I⟩,E⟩:=h
 refine⟨O,qk h2,fun j o hj ho hb=>?_,?_⟩
 ·have:=qu.1 I j (qC.2 hj)
  rw[hb,ho]at this
  simpa using this
 ·cases ho:ops[q]? with
  |none=>rw[ho]at E;cases E
  |some oq=>
   rw[ho]at E
   simp only[qj,Option.isNone_iff_eq_none]at E
   exact⟨oq,rfl,E.1,E.2⟩
theorem newsAt_nil{S T:Nat→Bool}:∀n,(∀k,k<n→S k=T k∨N k=[])→Q8 N S n=Q8 N T n
 |0,_=>rfl
 |n+1,h=>by
  simp only[Q8]
  rw[newsAt_nil n fun k hk=>h k (by omega)]
  rcases h n (by omega)with e|e
  ·rw[e]
  ·rw[e];rfl
theorem slot_of{q:Nat}(hap:Xr ops (befM ops.toList) q=true)(hqs:q≤ops.size){S:Nat→Bool}(hdown:Down ops S){i:Nat}{o:Oper}(hi:ops[i]?=some o)(hiq:i<q)(hS:S i=false)
 (hsub:∀j,B ops i j=true→S j=true):∀t,t∈o.looksAt ops→(Jd ops v S a₀ q)[t]?=(Ud ops a₀ v i)[t]?:=by
 have O:∀t,t∈o.looksAt ops→∀k,k<q→(ops[k]?).bind (·.dst)=some t→S k=true→k<i∧B ops i k=true:=by
  intro t Z k U E I
  cases hok:ops[k]? with
  |none=>rw[hok]at E;cases E
  |some ok=>
   rw[hok]at E
   simp only[Option.bind_some]at E
   rcases qx k i with Y|a6|a2
   ·refine⟨Y,?_⟩
    cases hb:B ops i k
    ·exact absurd Z ((Oper.apart_spec (Qr hap Y hiq hok hi hb)).1 t E)
    ·rfl
   ·subst a6;rw[I]at hS;cases hS
   ·exfalso
    cases hb:B ops k i
    ·exact absurd Z ((Oper.apart_spec (Qr hap a2 U hi hok hb)).2.2 t E)
    ·have:=hdown.bef k ok hok (hdown k ok hok I) i hb
     rw[hS]at this;cases this
 intro t Z
 have e1:(Jd ops v S a₀ q)[t]?=(Jd ops v (fun k=>B ops i k&&decide (k<i)) a₀ q)[t]?:=Q6 t q fun k U E=>by
  cases I:S k
  ·cases hb:B ops i k
   ·simp
   ·rw[hsub k hb]at I;cases I
  ·obtain⟨h1,h2⟩:=O t Z k U E I
   simp[h1,h2]
 rw[e1,ZA (i:=i) q (by omega) (fun k h1 _=>by simp;omega)]
 exact Q6 t i fun k U _=>by simp[U]
theorem US{o:Oper}{a b:List Value}(h:∀t,t∈o.looksAt ops→a[t]?=b[t]?):∀x∈o.op.operands,JG a x=JG b x:=by
 intro x hx
 cases x with
 |tmp t=>
  simp only[JG]
  refine h t ?_
  simp only[Oper.looksAt,List.mem_append,List.mem_filterMap]
  exact .inl ⟨.tmp t,by simpa using hx,rfl⟩
 |_=>rfl
theorem U4{o:Oper}(h:o.guard=none)(f:Nat→Option Bool):Region.wanted o f=true:=by unfold Region.wanted;rw[h]
theorem left_none{f:Nat→Bool}{n:Nat}(h:XI f n≤0):∀j,j<n→f j=true:=fun j hj=>by
 cases hg:f j
 ·have:=UM hg n hj;omega
 ·rfl
def Idle(P:Program)(ops:Array Oper)(a₀:List Value)(v:Nat→Value)(M':Mem)(i:Nat)(o:Oper):Prop:=
 if Region.wanted o (JO ops.toList (Ud ops a₀ v i))=true then JD P o.op (Ud ops a₀ v i) M'=some (v i,M')else v i=undef
theorem Idle.free{M':Mem}{i:Nat}{o:Oper}(hg:o.guard=none)(h:JD P o.op (Ud ops a₀ v i) M'=some (v i,M')):Idle P ops a₀ v M' i o:=by
 unfold Idle
 rw[if_pos (U4 hg _)]
 exact h
theorem mid_run{q:Nat}(hq:Ql ops (q+1)=true)(hqs:q<ops.size){oq:Oper}(hoq:ops[q]?=some oq)
 {Q:Exit→List Value→Mem→Prop} {ι₀:Nat→Loc} {m₀:Mem} {w₀:World} {vq:Value} {M':Mem}
 (hst:∀i o,i<q→ops[i]?=some o→B ops q i=false→Idle P ops a₀ v M' i o)
 (ht:Xq P ops.toList (Q .normal) (ops.toList.drop (q+1)) (QV (Jd ops v allS a₀ q) oq.dst vq) M'):∀(fuel:Nat)(listed:Array Bool)(_:listed.size=ops.size)(_:XI (JV listed) ops.size≤fuel)
 (_:Down ops (JV listed)) (_:JV listed q=true) (_:∀j,q<j→JV listed j=false) (κ:Nat→Loc) (act:Act) (w:World),
 ARel M'.Has κ (QV (Jd ops v (JV listed) a₀ q) oq.dst vq) act→Rel κ M' w→Step ι₀ m₀ w₀ κ M' w→wpAny P .any ops (K6 ι₀ m₀ w₀ Q) fuel listed act w:=by
 have aD:=hq
 simp only[Ql,qj]at hq
 obtain⟨⟨⟨aH,ao⟩,an⟩,ar⟩:=hq
 have ak:Xr ops (befM ops.toList) q=true:=by
  simp only[Xr,qj]at an
  exact an.1
 have done:∀(fuel:Nat)(listed:Array Bool)(_:listed.size=ops.size)(_:XI (JV listed) ops.size≤fuel)(_:JV listed q=true)(_:∀j,q<j→JV listed j=false)(κ:Nat→Loc)(act:Act)(w:World),
  ARel M'.Has κ (QV (Jd ops v (JV listed) a₀ q) oq.dst vq) act→Rel κ M' w→Step ι₀ m₀ w₀ κ M' w→(∀j,j<q→JV listed j=true)→wpAny P .any ops (K6 ι₀ m₀ w₀ Q) fuel listed act w:=by
  intro fuel listed a2 I Z aa κ act w ha hr hs U
  have aE:Jd ops v (JV listed) a₀ q=Jd ops v allS a₀ q:=by
   apply qt
   intro t
   exact Q6 t q fun k hk _=>U k hk
  rw[aE]at ha
  refine tail_run aD _ (q+1) (qh _) rfl fuel listed a2 (fun j hj=>?_) I _ _ ht κ act w hs ha hr
  rcases qx j q with h|h|h
  ·rw[U j h];simp;omega
  ·subst h;rw[Z];simp
  ·rw[aa j h];simp;omega
 intro fuel
 induction fuel with
 |zero=>
  intro listed a2 I E Z aa κ act w ha hr hs
  exact done 0 listed a2 I Z aa κ act w ha hr hs fun j hj=>left_none I j (by omega)
 |succ fuel ih=>
  intro listed a2 I E Z aa κ act w ha hr hs
  by_cases U:∀j,j<q→JV listed j=true
  ·exact done (fuel+1) listed a2 I Z aa κ act w ha hr hs U
  ·have aF:∃j,j<q∧JV listed j=false:=by
    rcases Classical.em (∃j,j<q∧JV listed j=false)with h'|h'
    ·exact h'
    ·refine absurd (fun j hj=>?_) U
     cases hg:JV listed j
     ·exact absurd ⟨j,hj,hg⟩ h'
     ·rfl
   obtain⟨j,hj,az⟩:=aF
   refine⟨fun hn=>absurd hn (ZO a2 ao ⟨j,by omega,az⟩),fun i hi=>?_⟩
   obtain⟨al,a7,oi,O,a6⟩:=(XQ a2).1 hi
   have ai:i<q:=by
    rcases qx i q with h|h|h
    ·exact h
    ·subst h;rw[Z]at a7;cases a7
    ·exfalso
     have:=E.bef i oi O a6 j (Vs ar al (by omega) (by omega))
     rw[az]at this;cases this
   have aw:B ops q i=false:=by
    cases hb:B ops q i
    ·rfl
    ·have:=E.bef q oq hoq (E q oq hoq Z) i hb
     rw[a7]at this;cases this
   have hI:=hst i oi ai O aw
   have am:=Oper.apart_spec (Qr an ai (Nat.lt_succ_self q) O hoq aw)
   have ay:∀k,B ops i k=true→JV listed k=true:=fun k hk=>E.bef i oi O a6 k hk
   have av:∀t,t∈oi.looksAt ops→(QV (Jd ops v (JV listed) a₀ q) oq.dst vq)[t]?=(Ud ops a₀ v i)[t]?:=fun t htl=>by
    rw[aPut_get _ _ _ _ (fun e=>am.2.2 t e htl)]
    exact slot_of ak (by omega) E O ai a7 ay t htl
   have hw:Region.wanted oi (yielded ops act.tmps)=Region.wanted oi (JO ops.toList (Ud ops a₀ v i)):=by
    refine Zo oi fun g b hg=>?_
    rw[Va ha ops g]
    unfold JO
    simp only[qy]
    cases hog:ops[g]? with
    |none=>rfl
    |some og=>
     cases hdg:og.dst with
     |none=>simp[hdg]
     |some t=>
      simp only[hdg]
      rw[av t (by simp[Oper.looksAt,hg,hog,hdg])]
   have ad:=Xk (listed:=listed) (i:=i) (by omega)
   have ap:∀(κ':Nat→Loc)(v':Value)(w':World),VRel M'.Has κ' (v i) v'→Rel κ' M' w'→Step κ M' w κ' M' w'→wpAny P .any ops (K6 ι₀ m₀ w₀ Q) fuel (listed.setIfInBounds i true) (act.put oi.dst v') w':=by
    intro κ' v' w' hv ae ab
    have ax:ARel M'.Has κ' (QV (QV (Jd ops v (JV listed) a₀ q) oq.dst vq) oi.dst (v i)) (act.put oi.dst v'):=(ha.mono ab.grows ab.at_).put' oi.dst hv
    refine ih _ (by simp[a2]) ?_ ?_ ?_ (fun k hk=>?_) κ' _ w' ?_ ae (hs.trans ab)
    ·have:=ZQ a7 ops.size al
     rw[ad]
     omega
    ·rw[ad]
     intro k ok hk af e he hb
     simp only[qi,beq_iff_eq]at af ⊢
     rcases af with af|rfl
     ·exact .inl (E k ok hk af e he hb)
     ·rw[O]at hk;cases hk
      exact .inl (a6 e he hb)
    ·rw[ad];simp[Z]
    ·rw[ad]
     have:(k==i)=false:=by simp;omega
     simp[aa k hk,this]
    ·rw[ad,frameAt_add a7 q ai fun k h2 h3 hk t ht' hkt=>?_]
     ·rw[O]
      simp only[Option.bind_some]
      rw[aPut_comm _ _ _ _ _ (fun t e1 e2=>am.2.1 t e2 e1)]at ax
      exact ax
     ·have ah:ops[k]?=some ops[k]:=qe (by omega)
      rw[O]at ht'
      rw[ah]at hkt
      cases hb:B ops k i
      ·exact(Oper.apart_spec (Qr ak h2 h3 O ah hb)).2.1 t ht' hkt
      ·have:=E.bef k _ ah (E k _ ah hk) i hb
       rw[a7]at this;cases this
   unfold wpOp
   simp only[O]
   rw[hw]
   unfold Idle at hI
   split
   ·rename_i hwant
    rw[if_pos hwant]at hI
    have h1:JD P oi.op (QV (Jd ops v (JV listed) a₀ q) oq.dst vq) M'=some (v i,M'):=by
     rw[Zd P oi.op M' (US av)]
     exact hI
    obtain⟨v',w',κ',Y,hv,ae,ab⟩:=evOp_run hr ha h1
    left
    unfold Oper.wp
    rcases Y with Y|⟨Y,rfl⟩
    ·rw[Y,Oper.upon_value];exact ap κ' v' w' hv ae ab
    ·rw[Y,Oper.upon_skip];exact ap κ' _ w' hv ae ab
   ·rename_i hwant
    rw[if_neg hwant]at hI
    exact ap κ _ w (by rw[hI];exact Xt) hr (.refl _ _ _)
theorem head_run2R{q:Nat}(hq:Ql ops (q+1)=true)(hqs:q<ops.size){oq:Oper}(hoq:ops[q]?=some oq)(hgq:oq.guard=none)(ha₀:∀(t:Nat)(x:Value),a₀[t]?=some x→Cl m.Has x)(hm:∀b x,m.get b=some x→ClBlk m.Has x)
 (hd:∀i o,i<q→ops[i]?=some o→DOp P ops a₀ m v N i o)
 {Q:Exit→List Value→Mem→Prop} {ι₀:Nat→Loc} {m₀:Mem} {w₀:World} {R:Value→Mem→Prop}
 (hN:∀i o,i<q→ops[i]?=some o→B ops q i=false→N i=[])
 (hevq:OpSim P oq (Jd ops v allS a₀ q) (Js m N allS q) R)
 (hall':∀vq M',R vq M'→(∀i o,i<q→ops[i]?=some o→B ops q i=false→Idle P ops a₀ v M' i o)∧
  Xq P ops.toList (Q .normal) (ops.toList.drop (q+1)) (QV (Jd ops v allS a₀ q) oq.dst vq) M'):∀(fuel:Nat)(listed:Array Bool)(_:listed.size=ops.size)(_:XI (JV listed) ops.size≤fuel)(κ:Nat→Loc)(act:Act)(w:World),Inv ops a₀ m v N q ι₀ m₀ w₀ (JV listed) κ act w→
 wpAny P .any ops (K6 ι₀ m₀ w₀ Q) fuel listed act w:=by
 have ao:=hq
 have aq:=Zj (QZ hq)
 simp only[Ql,qj]at hq
 obtain⟨⟨⟨av,ab⟩,aj⟩,ad⟩:=hq
 intro fuel
 induction fuel with
 |zero=>
  intro listed a7 Y κ act w h
  have:=left_none Y q hqs
  rw[h.low q (qh _)]at this
  cases this
 |succ fuel ih=>
  intro listed a7 Y κ act w h
  have ah:=h.low q (qh _)
  refine⟨fun hn=>absurd hn (ZO a7 ab ⟨q,hqs,ah⟩),fun i hi=>?_⟩
  obtain⟨a2,ae,oi,O,E⟩:=(XQ a7).1 hi
  rcases qx i q with ac|rfl|ac
  ·refine h.op aq (by omega) ha₀ hm O ac ae E (hd i oi ac O) fun κ' act' w' h'=>?_
   refine ih _ (by simp[a7]) ?_ κ' act' w' (by rw[Xk (by omega)];exact h')
   have:=ZQ ae ops.size a2
   rw[Xk (by omega)]
   omega
  ·rw[hoq]at O;cases O
   have ag:∀k,B ops i k=true→JV listed k=true:=fun k I=>h.down.bef i oq hoq E k I
   have Z:∀k,k<i→JV listed k=false→B ops i k=false:=fun k I hf=>by
    cases hb:B ops i k
    ·rfl
    ·rw[ag k hb]at hf;cases hf
   have U:Js m N (JV listed) i=Js m N allS i:=by
    unfold Js
    rw[newsAt_nil (T:=allS) i fun k I=>?_]
    cases hf:JV listed k
    ·exact .inr (hN k _ I (qe (by omega)) (Z k I hf))
    ·exact .inl rfl
   have am:∀t,t∈oq.looksAt ops→(Jd ops v (JV listed) a₀ i)[t]?=(Jd ops v allS a₀ i)[t]?:=fun t htl=>Q6 t i fun k I hdst=>by
    cases hf:JV listed k
    ·exfalso
     have af:ops[k]?=some ops[k]:=qe (by omega)
     rw[af]at hdst
     exact(Oper.apart_spec (Qr aj I (Nat.lt_succ_self i) af hoq (Z k I hf))).1 t hdst htl
    ·rfl
   unfold wpOp
   simp only[hoq]
   rw[U4 hgq]
   left
   refine hevq (Jd ops v (JV listed) a₀ i) κ act act w _ _ (fun x hx=>(US (o:=oq) am x hx).symm) (by rw[←U];exact h.frame) (by rw[←U];exact h.rel) rfl ?_
   intro vq M' v' w' κ' hR hv ak aa
   rw[←U]at aa
   obtain⟨ap,ht⟩:=hall' vq M' hR
   have an:ARel M'.Has κ' (QV (Jd ops v (JV listed) a₀ i) oq.dst vq) (act.put oq.dst v'):=(h.frame.mono aa.grows aa.at_).put' oq.dst hv
   have a6:=Xk (listed:=listed) (i:=i) (by omega)
   have al:wpAny P .any ops (K6 ι₀ m₀ w₀ Q) fuel (listed.setIfInBounds i true) (act.put oq.dst v') w':=by
    refine mid_run ao hqs hoq ap ht fuel _ (by simp[a7]) ?_ ?_ ?_ (fun k I=>?_) κ' _ w' ?_ ak (h.step.trans aa)
    ·have:=ZQ ae ops.size a2
     rw[a6]
     omega
    ·rw[a6]
     intro k ok I a8 e he hb
     simp only[qi,beq_iff_eq]at a8 ⊢
     rcases a8 with a8|rfl
     ·exact .inl (h.down k ok I a8 e he hb)
     ·rw[hoq]at I;cases I
      exact .inl (E e he hb)
    ·rw[a6];simp
    ·rw[a6]
     have:(k==i)=false:=by simp;omega
     simp[h.low k (by omega),this]
    ·have:Jd ops v (JV (listed.setIfInBounds i true)) a₀ i=Jd ops v (JV listed) a₀ i:=by
      apply qt
      intro t
      refine Q6 t i fun k I _=>?_
      rw[a6]
      have:(k==i)=false:=by simp;omega
      simp[this]
     rw[this]
     exact an
   exact al
  ·exfalso
   have:=h.down.bef i oi O E q (Vs ad a2 (by omega) (by omega))
   rw[ah]at this;cases this
theorem head_run2{q:Nat}(hq:Ql ops (q+1)=true)(hqs:q<ops.size){oq:Oper}(hoq:ops[q]?=some oq)(hgq:oq.guard=none)(ha₀:∀(t:Nat)(x:Value),a₀[t]?=some x→Cl m.Has x)(hm:∀b x,m.get b=some x→ClBlk m.Has x)
 (hd:∀i o,i<q→ops[i]?=some o→DOp P ops a₀ m v N i o)
 {Q:Exit→List Value→Mem→Prop} {ι₀:Nat→Loc} {m₀:Mem} {w₀:World} {vq:Value} {M':Mem}
 (hst:∀i o,i<q→ops[i]?=some o→B ops q i=false→o.guard=none∧JD P o.op (Ud ops a₀ v i) M'=some (v i,M')∧N i=[])
 (hevq:JD P oq.op (Jd ops v allS a₀ q) (Js m N allS q)=some (vq,M'))
 (ht:Xq P ops.toList (Q .normal) (ops.toList.drop (q+1)) (QV (Jd ops v allS a₀ q) oq.dst vq) M'):∀(fuel:Nat)(listed:Array Bool)(_:listed.size=ops.size)(_:XI (JV listed) ops.size≤fuel)(κ:Nat→Loc)(act:Act)(w:World),Inv ops a₀ m v N q ι₀ m₀ w₀ (JV listed) κ act w→
 wpAny P .any ops (K6 ι₀ m₀ w₀ Q) fuel listed act w:=by
 exact head_run2R hq hqs hoq hgq ha₀ hm hd (fun i o hi ho hb=>(hst i o hi ho hb).2.2) (OpSim.op (R:=fun u M=>u=vq∧M=M') hevq ⟨rfl,rfl⟩) (fun u M ⟨h1,h2⟩=>by subst h1;subst h2;exact⟨fun i o hi ho hb=>.free (hst i o hi ho hb).1 (hst i o hi ho hb).2.1,ht⟩)
theorem AW_draw6{id:Nat}{Q:Exit→List Value→Mem→Prop}(hmix:P.follows .mixedOrders=true)(q:Nat)(hq1:Ql ops (q+1)=true)(hqs:q<ops.size){oq:Oper}(hoq:ops[q]?=some oq)(hgq:oq.guard=none)
 (v:Nat→Value) (N:Nat→List (Option Blk)) (hd:∀i o,i<q→ops[i]?=some o→DOp P ops a₀ m v N i o) {R:Value→Mem→Prop}
 (hN:∀i o,i<q→ops[i]?=some o→B ops q i=false→N i=[])
 (hevq:OpSim P oq (Jd ops v allS a₀ q) (Js m N allS q) R)
 (hall':∀vq M',R vq M'→(∀i o,i<q→ops[i]?=some o→B ops q i=false→Idle P ops a₀ v M' i o)∧
  Xq P ops.toList (Q .normal) (ops.toList.drop (q+1)) (QV (Jd ops v allS a₀ q) oq.dst vq) M'):AW P (.region id ops true) Q a₀ m:=by
 intro ι₀ m₀ w₀ ι act w hs ha E
 refine wp_region_any hmix ?_
 have U:Rel ι m { w with drawn:=w.drawn+1 }:=⟨E.at',E.oth,E.inj,⟨E.glob.known.keep fun _ _=>rfl,E.glob.own⟩⟩
 have Z:Step ι₀ m₀ w₀ ι m { w with drawn:=w.drawn+1 }:=⟨hs.os,hs.tape,hs.output,hs.size,hs.grows,hs.at_,hs.block,hs.own⟩
 have a2:∀(t:Nat)(x:Value),a₀[t]?=some x→Cl m.Has x:=fun t x hx=>by
  obtain⟨y,_,hy⟩:=ha.tmps.get hx
  exact hy.cl
 have Y:=E.clBlk
 have I:JV (qF ops.size false)=fun _=>false:=by
  funext k
  unfold JV
  rw[qf,qv]
  split<;>rfl
 have O:∀n,Jd ops v (fun _=>false) a₀ n=a₀:=by
  intro n
  induction n with
  |zero=>rfl
  |succ n ih=>simp[Jd,ih]
 refine head_run2R hq1 hqs hoq hgq a2 Y hd hN hevq hall' ops.size _ (by simp) (by rw[I,VV];exact qh _) ι act _ ?_
 rw[I]
 refine⟨fun k o _ h=>absurd h (by simp),fun _ _=>rfl,?_,Zt q U,?_,fun k _ h=>absurd h (by simp),fun k _ h=>absurd h (by simp)⟩
 ·rw[O]
  exact ha.mono (fun c hc=>(JI _ _ _).2 (.inl hc)) fun _ _=>rfl
 ·refine Z.trans ⟨rfl,rfl,rfl,qh _,fun b hb=>(JI _ _ _).2 (.inl hb),fun _ _=>rfl,fun _ _ _=>rfl,fun b hb=>.inr ⟨b,?_,rfl⟩⟩
  obtain⟨y,hx,hy⟩:=hb
  rcases(QX _ _ _ _).1 hx with⟨_,h1⟩|⟨k,_,h1,_⟩
  ·exact⟨y,h1,hy⟩
  ·cases h1
theorem AW_draw4{id:Nat}{Q:Exit→List Value→Mem→Prop}(hmix:P.follows .mixedOrders=true)(q:Nat)(hq1:Ql ops (q+1)=true)(hqs:q<ops.size){oq:Oper}(hoq:ops[q]?=some oq)(hgq:oq.guard=none)
 (v:Nat→Value) (N:Nat→List (Option Blk)) (hd:∀i o,i<q→ops[i]?=some o→DOp P ops a₀ m v N i o) {vq:Value} {M':Mem}
 (hst:∀i o,i<q→ops[i]?=some o→B ops q i=false→o.guard=none∧JD P o.op (Ud ops a₀ v i) M'=some (v i,M')∧N i=[])
 (hevq:JD P oq.op (Jd ops v allS a₀ q) (Js m N allS q)=some (vq,M'))
 (ht:Xq P ops.toList (Q .normal) (ops.toList.drop (q+1)) (QV (Jd ops v allS a₀ q) oq.dst vq) M'):AW P (.region id ops true) Q a₀ m:=by
 intro ι₀ m₀ w₀ ι act w hs ha E
 refine wp_region_any hmix ?_
 have U:Rel ι m { w with drawn:=w.drawn+1 }:=⟨E.at',E.oth,E.inj,⟨E.glob.known.keep fun _ _=>rfl,E.glob.own⟩⟩
 have Z:Step ι₀ m₀ w₀ ι m { w with drawn:=w.drawn+1 }:=⟨hs.os,hs.tape,hs.output,hs.size,hs.grows,hs.at_,hs.block,hs.own⟩
 have a2:∀(t:Nat)(x:Value),a₀[t]?=some x→Cl m.Has x:=fun t x hx=>by
  obtain⟨y,_,hy⟩:=ha.tmps.get hx
  exact hy.cl
 have Y:=E.clBlk
 have I:JV (qF ops.size false)=fun _=>false:=by
  funext k
  unfold JV
  rw[qf,qv]
  split<;>rfl
 have O:∀n,Jd ops v (fun _=>false) a₀ n=a₀:=by
  intro n
  induction n with
  |zero=>rfl
  |succ n ih=>simp[Jd,ih]
 refine head_run2 hq1 hqs hoq hgq a2 Y hd hst hevq ht ops.size _ (by simp) (by rw[I,VV];exact qh _) ι act _ ?_
 rw[I]
 refine⟨fun k o _ h=>absurd h (by simp),fun _ _=>rfl,?_,Zt q U,?_,fun k _ h=>absurd h (by simp),fun k _ h=>absurd h (by simp)⟩
 ·rw[O]
  exact ha.mono (fun c hc=>(JI _ _ _).2 (.inl hc)) fun _ _=>rfl
 ·refine Z.trans ⟨rfl,rfl,rfl,qh _,fun b hb=>(JI _ _ _).2 (.inl hb),fun _ _=>rfl,fun _ _ _=>rfl,fun b hb=>.inr ⟨b,?_,rfl⟩⟩
  obtain⟨y,hx,hy⟩:=hb
  rcases(QX _ _ _ _).1 hx with⟨_,h1⟩|⟨k,_,h1,_⟩
  ·exact⟨y,h1,hy⟩
  ·cases h1
theorem AW_draw2{id:Nat}{Q:Exit→List Value→Mem→Prop}(hmix:P.follows .mixedOrders=true)(q:Nat)(hq:drawOK2 ops q=true)
 (v:Nat→Value) (N:Nat→List (Option Blk)) (hd:∀i o,i<q→ops[i]?=some o→DOp P ops a₀ m v N i o)
 (hst:∀i o,i<q→ops[i]?=some o→still o.op=true→o.guard=none→JD P o.op (Ud ops a₀ v i) (Xc ops m N i)=some (v i,Xc ops m N i)∧N i=[])
 (ht:Xq P ops.toList (Q .normal) (ops.toList.drop q) (Jd ops v allS a₀ q) (Js m N allS q)):AW P (.region id ops true) Q a₀ m:=by
 obtain⟨aa,U,E,oq,Y,a2,O⟩:=drawOK2_spec hq
 have I:ops.toList.drop q=oq::ops.toList.drop (q+1):=by
  have ab:q<ops.toList.length:=by simpa using U
  rw[List.drop_eq_getElem_cons ab]
  congr 1
  have:=(qm.1 Y).2
  simpa using this
 rw[I]at ht
 simp only[Xq,U4 O,if_true,noCall_ev a2]at ht
 obtain⟨vq,M',Z,ht⟩:∃vq M',JD P oq.op (Jd ops v allS a₀ q) (Js m N allS q)=some (vq,M')∧Xq P ops.toList (Q .normal) (ops.toList.drop (q+1)) (QV (Jd ops v allS a₀ q) oq.dst vq) M':=by
  rcases ht with⟨vq,M',h1,h2⟩|⟨_,_,_,h,_⟩|⟨_,h,_⟩
  ·exact⟨vq,M',h1,h2⟩
  ·cases h
  ·rw[noAny_ev a2]at h;cases h
 refine AW_draw4 hmix q aa U Y O v N hd (fun i o hi ho hb=>?_) Z ht
 obtain⟨h1,h2⟩:=E i o hi ho hb
 obtain⟨h3,h4⟩:=hst i o hi ho h1 h2
 exact⟨h2,(still_ev h1 h3).2 M',h4⟩
end
end
section
variable [Defs]
section
variable {P : Program} {ops : Array Oper} {a₀ : List Value} {m : Mem} {v : Nat → Value} {N : Nat → List (Option Blk)}
def barOK(ops:Array Oper)(b:Nat):Bool:=(qH ops.size).all fun k=>qo k b||(qH b).all fun j=>B ops k j
def seqOK(ops:Array Oper)(q b:Nat):Bool:=(qH b).all fun k=>qo k q||(qH k).all fun j=>B ops k j
theorem barOK_spec{b:Nat}(h:barOK ops b=true){k j:Nat}(hk:k<ops.size)(hb:b≤k)(hj:j<b):B ops k j=true:=by
 have:=qu.1 h k (qC.2 hk)
 rw[qi]at this
 rcases this with E|E
 ·have:=qk E;omega
 ·exact qu.1 E j (qC.2 hj)
theorem seqOK_spec{q b:Nat}(h:seqOK ops q b=true){k j:Nat}(hk:k<b)(hq:q≤k)(hj:j<k):B ops k j=true:=by
 have:=qu.1 h k (qC.2 hk)
 rw[qi]at this
 rcases this with E|E
 ·have:=qk E;omega
 ·exact qu.1 E j (qC.2 hj)
def phaseOK(ops:Array Oper)(b q b':Nat):Bool:=Xy ops q&&seqOK ops q b'&&barOK ops b'&&qG b q&&qG q b'&&qG b' ops.size
theorem phaseOK_spec{b q b':Nat}(h:phaseOK ops b q b'=true):Xy ops q=true∧seqOK ops q b'=true∧barOK ops b'=true∧b≤q∧q≤b'∧b'≤ops.size:=by
 simp only[phaseOK,qj]at h
 obtain⟨⟨⟨⟨⟨I,h2⟩,E⟩,O⟩,U⟩,Y⟩:=h
 exact⟨I,h2,E,qk O,qk U,qk Y⟩
def From(P:Program)(ops:Array Oper)(Q:Exit→List Value→Mem→Prop)(b:Nat)(a:List Value)(m:Mem):Prop:=
 ∀(ι₀:Nat→Loc)(m₀:Mem)(w₀:World)(fuel:Nat)(listed:Array Bool)(_:listed.size=ops.size)(_:XI (JV listed) ops.size≤fuel)(_:∀j,j<ops.size→JV listed j=decide (j<b))(ι:Nat→Loc)(act:Act)(w:World),
  Step ι₀ m₀ w₀ ι m w→ARel m.Has ι a act→Rel ι m w→wpAny P .any ops (K6 ι₀ m₀ w₀ Q) fuel listed act w
theorem From_end{Q:Exit→List Value→Mem→Prop}{b:Nat}{a:List Value}{m:Mem}(hb:ops.size≤b)(h:Q .normal a m):From P ops Q b a m:=by
 intro ι₀ m₀ w₀ O I a2 Z U ι act w hs ha hr
 have Y:Region.ready .any ops I=[]:=by
  apply List.eq_nil_iff_forall_not_mem.2
  intro j hj
  obtain⟨h1,h2,_⟩:=(XQ a2).1 hj
  rw[U j h1]at h2
  simp at h2;omega
 have E:K6 ι₀ m₀ w₀ Q .normal act w:=⟨ι,a,m,h,ha,hr,hs⟩
 cases O with
 |zero=>exact⟨Y,E⟩
 |succ O=>exact⟨fun _=>E,fun i hi=>by rw[Y]at hi;cases hi⟩
theorem tail_to{q b':Nat}(hback:XT ops.toList=true)(hseq:seqOK ops q b'=true)(hbar:barOK ops b'=true)(hb':b'≤ops.size){Q:Exit→List Value→Mem→Prop}:∀(l:List Oper)(k:Nat)(_:q≤k)(_:k≤b')(_:(ops.toList.drop k).take (b'-k)=l)(a:List Value)(m:Mem),
 Xq P ops.toList (From P ops Q b') l a m→From P ops Q k a m:=by
 intro l
 induction l with
 |nil=>
  intro k hk au hl a m h
  have:k=b':=by
   have:=congrArg List.length hl
   simp at this;omega
  subst this
  exact h
 |cons o l ih=>
  intro k hk au hl a m h ι₀ m₀ w₀ Z I ae av E ι act w hs ha hr
  have ar:k<b':=by
   have:=congrArg List.length hl
   simp at this;omega
  have ai:ops[k]?=some o:=by
   have:=congrArg (fun l=>l[0]?) hl
   simp only[List.getElem?_cons_zero,List.getElem?_take,List.getElem?_drop,qy,Nat.add_zero]at this
   rwa [if_pos (by omega)]at this
  have a6:JV I k=false:=by rw[E k (by omega)];simp
  have ay:=UM a6 ops.size (by omega)
  cases Z with
  |zero=>omega
  |succ Z=>
   refine⟨fun hn=>absurd hn (ZO ae hback ⟨k,by omega,a6⟩),fun i hi=>?_⟩
   obtain⟨ab,aj,oi,ad,af⟩:=(XQ ae).1 hi
   have ao:i=k:=by
    rw[E i ab]at aj
    have aI:k≤i:=by simpa using aj
    rcases qp k i with am|aJ
    ·exfalso
     have hd:Down ops (JV I):=by
      intro x ox hx ag e hm hb
      have ax:=(qm.1 hx).1
      rw[E x ax]at ag
      have aL:=XM hback hx hm hb
      rw[E _ (by omega)]
      simp at ag ⊢;omega
     have hB:B ops i k=true:=by
      rcases qp i b' with h1|h1
      ·exact seqOK_spec hseq h1 (by omega) am
      ·exact barOK_spec hbar ab h1 ar
     have:=hd.bef i oi ad af k hB
     rw[a6]at this;cases this
    ·omega
   subst ao
   rw[ai]at ad;cases ad
   have Y:∀(a':List Value)(m':Mem)(κ:Nat→Loc)(a2:Act)(w':World),Xq P ops.toList (From P ops Q b') l a' m'→Step ι₀ m₀ w₀ κ m' w'→ARel m'.Has κ a' a2→Rel κ m' w'→wpAny P .any ops (K6 ι₀ m₀ w₀ Q) Z (I.setIfInBounds i true) a2 w':=by
    intro a' m' κ a2 w' h' O aa a7
    refine ih (i+1) (by omega) (by omega) ?_ a' m' h' ι₀ m₀ w₀ Z _ (by simp[ae]) ?_ (fun j hj=>?_) κ a2 w' O aa a7
    ·have:=congrArg (List.drop 1) hl
     rw[List.drop_take,List.drop_drop]at this
     simpa[Nat.sub_sub]using this
    ·have:=ZQ a6 ops.size ab
     rw[Xk (by omega)]
     omega
    ·rw[Xk (by omega)]
     simp only[E j hj]
     by_cases e:j=i
     ·subst e;simp
     ·have ap:(j==i)=false:=by simp[e]
      rw[ap,qw]
      congr 1
      apply propext
      omega
   have hy:yielded ops act.tmps=JO ops.toList a:=funext fun j=>Va ha ops j
   simp only[Xq]at h
   unfold wpOp
   simp only[ai,hy]
   split at h
   ·rename_i hw
    rw[if_pos hw]
    left
    unfold Oper.wp
    replace h:(∃v m',OSim P ι m w o act v m'∧Xq P ops.toList (From P ops Q b') l (QV a o.dst v) m')∨(∃k xs R,Xl a o.op=some (k,xs)∧Qg P k=true∧Spec P k xs m R∧∀v m',R v m'→Xq P ops.toList (From P ops Q b') l (QV a o.dst v) m'):=by
     rcases h with⟨v,m',h1,h2⟩|h|⟨R,h1,h2⟩
     ·exact .inl ⟨v,m',evOp_run hr ha h1,h2⟩
     ·exact .inr h
     ·obtain⟨v,m',h3,h4⟩:=evAny_run hr ha h1
      exact .inl ⟨v,m',h4,h2 v m' h3⟩
    rcases h with⟨v,m',h1,h2⟩|⟨f,xs,R,h1,he,aw,h2⟩
    ·obtain⟨v',w',κ,U,hv,a7,O⟩:=h1
     have aa:ARel m'.Has κ (QV a o.dst v) (act.put o.dst v'):=(ha.mono O.grows O.at_).put' o.dst hv
     have:=Y _ _ κ _ w' h2 (hs.trans O) aa a7
     rcases U with U|⟨U,rfl⟩
     ·rw[U,Oper.upon_value];exact this
     ·rw[U,Oper.upon_skip];exact this
    ·obtain⟨ys,aq,ah⟩:=Vu ha h1 he
     rw[ah w,Oper.upon_enter]
     refine(aw ι w ys aq hr).mono ?_
     rintro e w' ⟨v,v',κ,m',hR,rfl,hv,a7,O⟩
     have aa:ARel m'.Has κ (QV a o.dst v) (act.put o.dst v'):=(ha.mono O.grows O.at_).put' o.dst hv
     exact Y _ _ κ _ w' (h2 v m' hR) (hs.trans O) aa a7
   ·rename_i hw
    rw[if_neg hw]
    exact Y _ _ ι _ w h hs (ha.put' o.dst Xt) hr
theorem head_run3{b q b':Nat}(hho:Xy ops q=true)(hseq:seqOK ops q b'=true)(hbar:barOK ops b'=true)(hqb:q≤b')(hb':b'≤ops.size)(ha₀:∀(t:Nat)(x:Value),a₀[t]?=some x→Cl m.Has x)(hm:∀b x,m.get b=some x→ClBlk m.Has x)
 (hd:∀i o,b≤i→i<q→ops[i]?=some o→DOp P ops a₀ m v N i o) {Q:Exit→List Value→Mem→Prop} {ι₀:Nat→Loc} {m₀:Mem} {w₀:World}
 (ht:Xq P ops.toList (From P ops Q b') ((ops.toList.drop q).take (b'-q)) (Jd ops v allS a₀ q) (Js m N allS q)):∀(fuel:Nat)(listed:Array Bool)(_:listed.size=ops.size)(_:XI (JV listed) ops.size≤fuel)(_:∀j,j<b→JV listed j=true)(κ:Nat→Loc)(act:Act)(w:World),Inv ops a₀ m v N q ι₀ m₀ w₀ (JV listed) κ act w→
 wpAny P .any ops (K6 ι₀ m₀ w₀ Q) fuel listed act w:=by
 have U:XT ops.toList=true:=by simp only[Xy,qj]at hho;exact hho.1.2
 have done:∀(fuel:Nat)(listed:Array Bool)(_:listed.size=ops.size)(_:XI (JV listed) ops.size≤fuel)(κ:Nat→Loc)(act:Act)(w:World),Inv ops a₀ m v N q ι₀ m₀ w₀ (JV listed) κ act w→(∀j,j<q→JV listed j=true)→
  wpAny P .any ops (K6 ι₀ m₀ w₀ Q) fuel listed act w:=by
  intro fuel listed O E κ act w h I
  have Y:Js m N (JV listed) q=Js m N allS q:=by unfold Js;rw[Zs (T:=allS) q fun k hk=>I k hk]
  have ah:Jd ops v (JV listed) a₀ q=Jd ops v allS a₀ q:=by
   apply qt
   intro t
   exact Q6 t q fun k hk _=>I k hk
  refine tail_to U hseq hbar hb' _ q (qh _) hqb rfl _ _ ht ι₀ m₀ w₀ fuel listed O E (fun j hj=>?_) κ act w (by rw[←Y];exact h.step) (by rw[←Y,←ah];exact h.frame) (by rw[←Y];exact h.rel)
  rcases qp j q with a2|ab
  ·rw[I j a2];simp[a2]
  ·rw[h.low j ab];simp;omega
 intro fuel
 induction fuel with
 |zero=>
  intro listed O E hb κ act w h
  exact done 0 listed O E κ act w h fun j hj=>left_none E j (by omega)
 |succ fuel ih=>
  intro listed O E hb κ act w h
  by_cases I:∀j,j<q→JV listed j=true
  ·exact done _ listed O E κ act w h I
  ·have ai:∃j,j<q∧JV listed j=false:=by
    rcases Classical.em (∃j,j<q∧JV listed j=false)with h'|h'
    ·exact h'
    ·refine absurd (fun j hj=>?_) I
     cases hg:JV listed j
     ·exact absurd ⟨j,hj,hg⟩ h'
     ·rfl
   obtain⟨j,hj,ae⟩:=ai
   refine⟨fun hn=>absurd hn (ZO O U ⟨j,by omega,ae⟩),fun i hi=>?_⟩
   obtain⟨a7,a6,oi,aa,Z⟩:=(XQ O).1 hi
   have ad:i<q:=by
    rcases qp i q with a2|ab
    ·exact a2
    ·exfalso
     have hB:B ops i j=true:=by
      rcases qp i b' with h1|h1
      ·exact seqOK_spec hseq h1 ab (by omega)
      ·exact barOK_spec hbar a7 h1 (by omega)
     have:=h.down.bef i oi aa Z j hB
     rw[ae]at this;cases this
   have ag:b≤i:=by
    rcases qp i b with h1|h1
    ·rw[hb i h1]at a6;cases a6
    ·exact h1
   refine h.op hho (by omega) ha₀ hm aa ad a6 Z (hd i oi ag ad aa) fun κ' act' w' h'=>?_
   refine ih _ (by simp[O]) ?_ (fun k hk=>?_) κ' act' w' (by rw[Xk (by omega)];exact h')
   ·have:=ZQ a6 ops.size a7
    rw[Xk (by omega)]
    omega
   ·rw[Xk (by omega)];simp[hb k hk]
def idV(ops:Array Oper)(a:List Value)(k:Nat):Value:=match(ops[k]?).bind (·.dst)with
 |some t=>(a[t]?).getD undef
 |none=>undef
theorem aPut_id(ops:Array Oper)(a:List Value)(k:Nat):QV a ((ops[k]?).bind (·.dst)) (idV ops a k)=a:=by
 unfold idV
 cases(ops[k]?).bind (·.dst)with
 |none=>rfl
 |some t=>
  simp only[QV]
  apply qt
  intro j
  rw[List.getElem?_set]
  split
  ·rename_i e;subst e
   split
   ·rename_i hlt;rw[List.getElem?_eq_getElem hlt];rfl
   ·rename_i hge;rw[qD (by omega)]
  ·rfl
theorem frameAt_id{S:Nat→Bool}{a:List Value}:∀n,(∀k,k<n→S k=true→v k=idV ops a k)→Jd ops v S a n=a
 |0,_=>rfl
 |n+1,h=>by
  simp only[Jd]
  rw[frameAt_id n fun k hk=>h k (by omega)]
  split
  ·rename_i hS
   rw[h n (by omega) hS,aPut_id]
  ·rfl
theorem idV_cl{a:List Value}{k:Nat}{p:Nat→Prop}(h:∀(t:Nat)(x:Value),a[t]?=some x→Cl p x):Cl p (idV ops a k):=by
 unfold idV
 have E:Cl p undef:=⟨fun _=>⟨0,0,0,0⟩,undef,Xt⟩
 split
 ·rename_i t _
  cases hx:a[t]? with
  |none=>exact E
  |some x=>exact h t x hx
 ·exact E
theorem From_phase{b q b':Nat}(hok:phaseOK ops b q b'=true){Q:Exit→List Value→Mem→Prop}(hv:∀k,k<b→v k=idV ops a₀ k)(hN:∀k,k<b→N k=[])
 (hd:∀i o,b≤i→i<q→ops[i]?=some o→DOp P ops a₀ m v N i o)
 (ht:Xq P ops.toList (From P ops Q b') ((ops.toList.drop q).take (b'-q)) (Jd ops v allS a₀ q) (Js m N allS q)):From P ops Q b a₀ m:=by
 obtain⟨Z,aa,a8,al,ah,ac⟩:=phaseOK_spec hok
 intro ι₀ m₀ w₀ a7 E ai Y I ι act w hs ha hr
 have U:XT ops.toList=true:=by simp only[Xy,qj]at Z;exact Z.1.2
 have ab:∀(t:Nat)(x:Value),a₀[t]?=some x→Cl m.Has x:=fun t x hx=>by
  obtain⟨y,_,hy⟩:=ha.tmps.get hx
  exact hy.cl
 have ae:=hr.clBlk
 have hS:∀k,JV E k=true→k<b:=fun k hk=>by
  rcases qp k ops.size with h1|h1
  ·rw[I k h1]at hk;simpa using hk
  ·unfold JV at hk
   rw[qf,Array.getElem?_eq_none (by omega)]at hk
   cases hk
 have O:Js m N (JV E) q=Js m N (fun _=>false) q:=by
  unfold Js
  rw[newsAt_nil (T:=fun _=>false) q fun k hk=>?_]
  cases hg:JV E k
  ·exact .inl rfl
  ·exact .inr (hN k (hS k hg))
 have ag:Jd ops v (JV E) a₀ q=a₀:=frameAt_id q fun k _ hk=>hv k (hS k hk)
 refine head_run3 Z aa a8 ah ac ab ae hd ht a7 E ai Y (fun j hj=>by rw[I j (by omega)];simp[hj]) ι act w ?_
 refine⟨?_,fun k hk=>?_,?_,?_,?_,fun k hk hSk=>?_,fun k hk hSk x hx=>?_⟩
 ·intro x ox hx ad e hm hb
  have an:=(qm.1 hx).1
  have:=hS x ad
  have ao:=XM U hx hm hb
  rw[I _ (by omega)]
  simp;omega
 ·cases hg:JV E k
  ·rfl
  ·have:=hS k hg;omega
 ·rw[ag,O]
  exact ha.mono (fun c hc=>(JI _ _ _).2 (.inl hc)) fun _ _=>rfl
 ·rw[O];exact Zt q hr
 ·rw[O]
  refine hs.trans ⟨rfl,rfl,rfl,qh _,fun b hb=>(JI _ _ _).2 (.inl hb),fun _ _=>rfl,fun _ _ _=>rfl,fun b hb=>.inr ⟨b,?_,rfl⟩⟩
  obtain⟨y,hx,hy⟩:=hb
  rcases(QX _ _ _ _).1 hx with⟨_,h1⟩|⟨k,_,h1,_⟩
  ·exact⟨y,h1,hy⟩
  ·cases h1
 ·rw[hv k (hS k hSk)]
  exact(idV_cl ab).mono fun b hb=>(VE _ _).2 (.inl hb)
 ·rw[hN k (hS k hSk)]at hx;cases hx
theorem AW_from{id:Nat}{Q:Exit→List Value→Mem→Prop}(hmix:P.follows .mixedOrders=true){a:List Value}(h:From P ops Q 0 a m):AW P (.region id ops true) Q a m:=by
 intro ι₀ m₀ w₀ ι act w hs Y E
 refine wp_region_any hmix ?_
 have O:Rel ι m { w with drawn:=w.drawn+1 }:=⟨E.at',E.oth,E.inj,⟨E.glob.known.keep fun _ _=>rfl,E.glob.own⟩⟩
 have U:Step ι₀ m₀ w₀ ι m { w with drawn:=w.drawn+1 }:=⟨hs.os,hs.tape,hs.output,hs.size,hs.grows,hs.at_,hs.block,hs.own⟩
 have I:JV (qF ops.size false)=fun _=>false:=by
  funext k
  unfold JV
  rw[qf,qv]
  split<;>rfl
 exact h ι₀ m₀ w₀ ops.size _ (by simp) (by rw[I,VV];exact qh _) (fun j _=>by rw[I];simp) ι act _ U Y O
end
end
def Ext(m m':Mem):Prop:=m.size≤m'.size∧(∀b,b<m.size→m'.blks[b]?=m.blks[b]?∨(m.Own b∧∃o,m'.blks[b]?=some (some o)∧ZK o=true))∧
 ∀b,m.size≤b→b<m'.size→∃o,m'.blks[b]?=some (some o)∧ZK o=true
theorem app_get_new{m:Mem}{N:List (Option Blk)}{b:Nat}{x:Blk}(hb:m.size≤b)(h:N[b-m.size]?=some (some x)):(m.app N).get b=some x:=by
 rw[get_iff]
 unfold Mem.app
 simp only[Mem.size]at hb h ⊢
 rw[qA,if_neg (by omega),List.getElem?_map,h]
 rfl
theorem app_get_old{m:Mem}{N:List (Option Blk)}{b:Nat}(hb:b<m.size):(m.app N).get b=m.get b:=by
 unfold Mem.get Mem.app
 simp only[Mem.size]at hb
 simp only
 rw[qA,if_pos hb]
structure N16(α:Type) where
 (a b c d e f g h i j k l m n o p:α)
def e16{α:Type}(x:α):N16 α:=⟨x,x,x,x,x,x,x,x,x,x,x,x,x,x,x,x⟩
theorem Z9{n:Nat}(h:n<9223372036854775808):IntKind.i64.wrap (qd n)=qd n:=by
 have e:IntKind.i64.bits=64:=rfl
 have I:IntKind.i64.signed=true:=rfl
 unfold IntKind.wrap
 simp only[e,I,Bool.true_and,decide_eq_true_eq]
 have E:(qd n)%(2^64:Int)=qd n:=by
  have:(2:Int)^64=18446744073709551616:=by decide
  rw[this]
  simp only[qc];omega
 rw[E,if_neg]
 have:(2:Int)^(64-1)=9223372036854775808:=by decide
 rw[this]
 simp only[qc];omega
noncomputable def fNat(op:BinOp)(a b:Nat):Option Value:=
 match op with
 |.add=>bif qo (Nat.add a b) 9223372036854775808 then some (.int .i64 (.ofNat (Nat.add a b)))else none
 |.sub=>bif qG b a then some (.int .i64 (.ofNat (Nat.sub a b)))else none
 |.mul=>bif qo (Nat.mul a b) 9223372036854775808 then some (.int .i64 (.ofNat (Nat.mul a b)))else none
 |.quo=>bif Nat.beq b 0 then none else some (.int .i64 (.ofNat (Nat.div a b)))
 |.rem=>bif Nat.beq b 0 then none else some (.int .i64 (.ofNat (Nat.mod a b)))
 |.and=>some (.int .i64 (.ofNat (Nat.land a b)))
 |.or=>some (.int .i64 (.ofNat (Nat.lor a b)))
 |.xor=>some (.int .i64 (.ofNat (Nat.xor a b)))
 |.eql=>some (.bool (Nat.beq a b))
 |.neq=>some (.bool (Bool.not (Nat.beq a b)))
 |.lss=>some (.bool (qo a b))
 |.leq=>some (.bool (qG a b))
 |.gtr=>some (.bool (qo b a))
 |.geq=>some (.bool (qG b a))
 |.shl=>bif qo b 64 then bif qo (Nat.mul a (Nat.pow 2 b)) 9223372036854775808 then some (.int .i64 (.ofNat (Nat.mul a (Nat.pow 2 b))))else none else none
 |.shr=>bif qo b 64 then some (.int .i64 (.ofNat (Nat.div a (Nat.pow 2 b))))else none
 |_=>none
theorem blt_iff{a b:Nat}:qo a b=true↔a<b:=by
 constructor
 ·intro h;exact qk h
 ·intro h;exact Nat.ble_eq_true_of_le h
theorem blt_dec(a b:Nat):qo a b=decide (a<b):=by
 rw[qB,blt_iff,decide_eq_true_eq]
theorem ble_dec(a b:Nat):qG a b=decide (a≤b):=by
 rw[qB,Nat.ble_eq,decide_eq_true_eq]
theorem bits_and{a b:Nat}(ha:a<9223372036854775808)(hb:b<9223372036854775808)(F:(w:Nat)→BitVec w→BitVec w→BitVec w)(G:Nat→Nat→Nat)(hF:∀x y:BitVec 64,(F 64 x y).toNat=G x.toNat y.toNat)(hG:G a b<9223372036854775808):
 IntKind.i64.wrap (((F IntKind.i64.bits (BitVec.ofInt IntKind.i64.bits (qd a)) (BitVec.ofInt IntKind.i64.bits (qd b))).toNat:Nat):Int)=qd (G a b):=by
 show IntKind.i64.wrap (((F 64 (BitVec.ofInt 64 (qd a)) (BitVec.ofInt 64 (qd b))).toNat:Nat):Int)=qd (G a b)
 have h:∀n:Nat,n<9223372036854775808→(BitVec.ofInt 64 (qd n)).toNat=n:=fun n hn=>by
  simp only[qc,BitVec.toNat_ofInt,Int.toNat_emod]
  omega
 rw[hF,h a ha,h b hb]
 exact Z9 hG
theorem fNat_spec{op:BinOp}{a b:Nat}{v:Value}(h:fNat op a b=some v)(ha:a<9223372036854775808)(hb:b<9223372036854775808)(hop:op≠ .shl∧op≠ .shr):XV op .i64 (qd a) (qd b)=some v:=by
 cases op<;>simp only[fNat]at h<;>first|(cases h;done)|skip
 case shl=>exact absurd rfl hop.1
 case shr=>exact absurd rfl hop.2
 case add=>
  cases hc:qo (Nat.add a b) 9223372036854775808<;>rw[hc]at h<;>first|(cases h;done)|skip
  cases h
  have:=Z9 (blt_iff.1 hc)
  simp only[XV]
  rw[←this];rfl
 case sub=>
  cases hc:qG b a<;>rw[hc]at h<;>first|(cases h;done)|skip
  cases h
  have E:b≤a:=qk hc
  have e:(qd a-qd b)=qd (a-b):=by simp only[qc];omega
  simp only[XV]
  rw[e,Z9 (by omega)];rfl
 case mul=>
  cases hc:qo (Nat.mul a b) 9223372036854775808<;>rw[hc]at h<;>first|(cases h;done)|skip
  cases h
  have:=Z9 (blt_iff.1 hc)
  simp only[XV]
  rw[←this];rfl
 case quo=>
  cases hc:Nat.beq b 0<;>rw[hc]at h<;>first|(cases h;done)|skip
  cases h
  have I:b≠0:=fun e=>by subst e;cases hc
  simp only[XV]
  rw[if_neg (by simp only[qc];omega)]
  have e:(qd a).tdiv (qd b)=qd (a/b):=rfl
  rw[e,Z9 (Nat.lt_of_le_of_lt (Nat.div_le_self a b) ha)];rfl
 case rem=>
  cases hc:Nat.beq b 0<;>rw[hc]at h<;>first|(cases h;done)|skip
  cases h
  have I:b≠0:=fun e=>by subst e;cases hc
  simp only[XV]
  rw[if_neg (by simp only[qc];omega)]
  rfl
 case and=>
  cases h
  simp only[XV]
  have e:=bits_and ha hb (fun _ x y=>x&&&y) (fun x y=>x&&&y) (fun x y=>BitVec.toNat_and x y) (Nat.lt_of_le_of_lt Nat.and_le_left ha)
  exact congrArg (fun x=>some (Value.int .i64 x)) e
 case or=>
  cases h
  simp only[XV]
  have e:=bits_and ha hb (fun _ x y=>x|||y) (fun x y=>x|||y) (fun x y=>BitVec.toNat_or x y) (Nat.or_lt_two_pow (n:=63) ha hb)
  exact congrArg (fun x=>some (Value.int .i64 x)) e
 case xor=>
  cases h
  simp only[XV]
  have e:=bits_and ha hb (fun _ x y=>x^^^y) (fun x y=>x^^^y) (fun x y=>BitVec.toNat_xor x y) (Nat.xor_lt_two_pow (n:=63) ha hb)
  exact congrArg (fun x=>some (Value.int .i64 x)) e
 case eql=>
  cases h
  simp only[XV]
  congr 2
  rw[qB]
  simp only[beq_iff_eq,Nat.beq_eq,qc]
  omega
 case neq=>
  cases h
  simp only[XV]
  congr 2
  have e:(qd a==qd b)=Nat.beq a b:=by
   rw[qB]
   simp only[beq_iff_eq,Nat.beq_eq,qc]
   omega
  rw[bne,e]
 all_goals
  cases h
  simp only[XV,blt_dec,ble_dec]
  congr 2
  rw[qB]
  simp
noncomputable def fBin(P:Program)(op:BinOp)(t:TypeId)(cx:Bool)(x y:Value):Option Value:=
 match x,y with
 |.int .i64 (.ofNat a),.int .i64 (.ofNat b)=>bif qo a 9223372036854775808 then bif qo b 9223372036854775808 then match fNat op a b with
  |some v=>some v
  |none=>aBin P op t cx (.int .i64 (.ofNat a)) (.int .i64 (.ofNat b))
  else aBin P op t cx (.int .i64 (.ofNat a)) (.int .i64 (.ofNat b))
  else aBin P op t cx (.int .i64 (.ofNat a)) (.int .i64 (.ofNat b))
 |x,y=>aBin P op t cx x y
theorem fBin_eq{P:Program}{op:BinOp}{t:TypeId}{cx:Bool}{x y v:Value}(h:fBin P op t cx x y=some v):aBin P op t cx x y=some v:=by
 unfold fBin at h
 split at h
 ·rename_i a b
  cases I:qo a 9223372036854775808<;>rw[I]at h<;>first|exact h|skip
  cases hb:qo b 9223372036854775808<;>rw[hb]at h<;>first|exact h|skip
  simp only[cond_true]at h
  split at h
  ·rename_i u hu
   cases h
   have I:=blt_iff.1 I
   have hb:=blt_iff.1 hb
   by_cases hop:op≠ .shl∧op≠ .shr
   ·have:=fNat_spec hu I hb hop
    cases op<;>simp only[aBin,if_true]<;>first|exact this|(exact absurd rfl hop.1)|(exact absurd rfl hop.2)
   ·have e:op=.shl∨op=.shr:=by cases op<;>simp_all
    rcases e with rfl|rfl
    ·simp only[fNat]at hu
     cases hc:qo b 64<;>rw[hc]at hu<;>first|(cases hu;done)|skip
     simp only[cond_true]at hu
     cases E:qo (Nat.mul a (Nat.pow 2 b)) 9223372036854775808<;>rw[E]at hu<;>first|(cases hu;done)|skip
     cases hu
     have hc:=blt_iff.1 hc
     have E:=blt_iff.1 E
     simp only[aBin]
     rw[if_pos (by simp only[qc];omega)]
     have U:min (qd b).toNat IntKind.i64.bits=b:=by
      have:IntKind.i64.bits=64:=rfl
      rw[this]
      simp only[qc,Int.toNat_natCast];omega
     rw[U]
     have O:qd a*2^b=qd (Nat.mul a (Nat.pow 2 b)):=by
      simp only[qc,Nat.mul_eq,Nat.pow_eq,Int.natCast_mul,Int.natCast_pow];rfl
     rw[O,Z9 E]
    ·simp only[fNat]at hu
     cases hc:qo b 64<;>rw[hc]at hu<;>first|(cases hu;done)|skip
     cases hu
     have hc:=blt_iff.1 hc
     simp only[aBin]
     rw[if_pos (by simp only[qc];omega)]
     have U:min (qd b).toNat IntKind.i64.bits=b:=by
      have:IntKind.i64.bits=64:=rfl
      rw[this]
      simp only[qc,Int.toNat_natCast];omega
     rw[U]
     have O:(2:Int)^b=qd (2^b):=by simp only[qc,Int.natCast_pow];rfl
     rw[O]
     have Y:(qd a).fdiv (qd (2^b))=qd (a/2^b):=(Int.ofNat_fdiv a (2^b)).symm
     rw[Y];rfl
  ·exact h
 ·exact h
section
variable (P : Program) (get : Nat → Option Blk)
def gLoad(t:TypeId)(p:Value):Option Value:=
 match p with
 |.pointer (some ⟨b,o,none⟩)=>match get b with
  |some (.cells _ _ cs)=>match P.underlying t with
   |none=>none
   |some d=>if d.isRow then match P.info? t with
    |some i=>if o+i.size≤cs.length then some (.agg ((cs.drop o).take i.size).toArray)else none
    |none=>none
    else cs[o]?
  |_=>none
 |_=>none
def Xw(src dst:TypeId)(x:Value):Option Value:=
 match P.underlying src with
 |some (.slice e)=>match P.underlying dst with
  |some .string=>match P.underlying e with
   |some (.int .u8)=>match x with
    |.slice none 0 0=>some (.string ⟨#[]⟩)
    |.slice (some ⟨b,o,none⟩) n _=>match get b with
     |some (.cells _ _ cs)=>if o+n≤cs.length then match ZT ((cs.drop o).take n)with
      |some l=>some (.string ⟨⟨l⟩⟩)
      |none=>none
      else none
     |_=>none
    |_=>none
   |_=>none
  |_=>none
 |_=>none
def Q1(t:TypeId)(x:Value)(lo hi:Option Value):Option Value:=
 match P.underlying t with
 |some .string=>match x with
  |.string s=>match X9 (JC s) (JC s) lo hi with
   |some (l,h)=>some (.string (bsub s l h))
   |none=>none
  |_=>none
 |some (.slice e)=>match P.info? e with
  |none=>none
  |some i=>match x with
   |.slice none 0 0=>match X9 0 0 lo hi with
    |some _=>some (.slice none 0 0)
    |none=>none
   |.slice (some ⟨b,o,none⟩) len cap=>match X9 len cap lo hi with
    |some (l,h)=>match get b with
     |some (.cells _ s _)=>if s=i.size then some (.slice (some ⟨b,o+l*i.size,none⟩) (h-l) (cap-l))else none
     |_=>none
    |none=>none
   |_=>none
 |some (.array n e)=>match P.info? e with
  |none=>none
  |some i=>match x with
   |.pointer (some ⟨b,o,none⟩)=>match X9 n n lo hi with
    |some (l,h)=>if l<n then some (.slice (some ⟨b,o+l*i.size,none⟩) (h-l) (n-l))else none
    |none=>none
   |_=>none
 |_=>none
end
section
variable {P : Program} {get get' : Nat → Option Blk} (hg : ∀ b x, get b = some x → get' b = some x)
include hg
theorem gLoad_mono{t:TypeId}{p v:Value}(h:gLoad P get t p=some v):gLoad P get' t p=some v:=by
 unfold gLoad at h ⊢
 split at h<;>first|(cases h;done)|skip
 rename_i b o
 cases hb:get b with
 |none=>rw[hb]at h;cases h
 |some x=>rw[hb]at h;simp only[hg b x hb];exact h
theorem gToString_mono{s d:TypeId}{p v:Value}(h:Xw P get s d p=some v):Xw P get' s d p=some v:=by
 unfold Xw at h ⊢
 split at h<;>first|(cases h;done)|skip
 split at h<;>first|(cases h;done)|skip
 split at h<;>first|(cases h;done)|skip
 split at h<;>first|(cases h;done)|skip
 ·exact h
 ·rename_i b o n _
  cases hb:get b with
  |none=>rw[hb]at h;cases h
  |some x=>rw[hb]at h;simp only[hg b x hb];exact h
theorem gSlice_mono{t:TypeId}{x v:Value}{lo hi:Option Value}(h:Q1 P get t x lo hi=some v):Q1 P get' t x lo hi=some v:=by
 unfold Q1 at h ⊢
 split at h<;>first|(cases h;done)|skip
 ·exact h
 ·split at h<;>first|(cases h;done)|skip
  split at h<;>first|(cases h;done)|skip
  ·exact h
  ·split at h<;>first|(cases h;done)|skip
   rename_i b o len cap _ l h' _
   cases hb:get b with
   |none=>rw[hb]at h;cases h
   |some x=>rw[hb]at h;simp only[hg b x hb];exact h
 ·exact h
end
def JZ(vs:List Value)(k:Nat):Value:=(vs[k]?).getD undef
def JL(Ns:List (List (Option Blk)))(k:Nat):List (Option Blk):=(Ns[k]?).getD []
theorem OpSim.congr [Defs] {P:Program}{o:Oper}{a b:List Value}{m:Mem}{R:Value→Mem→Prop}(h:OpSim P o a m R)(he:∀x∈o.op.operands,JG b x=JG a x):OpSim P o b m R:=
 fun c ι act act2 w K Q hbc=>h c ι act act2 w K Q fun x hx=>by rw[←he x hx];exact hbc x hx
theorem Z1{ops:Array Oper}{v u:Nat→Value}{S:Nat→Bool}{a:List Value}:∀n,(∀k,k<n→v k=u k)→Jd ops v S a n=Jd ops u S a n
 |0,_=>rfl
 |n+1,h=>by simp only[Jd,Z1 n fun k hk=>h k (by omega),h n (by omega)]
theorem XX{N N':Nat→List (Option Blk)}{S:Nat→Bool}:∀n,(∀k,k<n→N k=N' k)→Q8 N S n=Q8 N' S n
 |0,_=>rfl
 |n+1,h=>by simp only[Q8,XX n fun k hk=>h k (by omega),h n (by omega)]
theorem DOp_congr [Defs] {P:Program}{ops:Array Oper}{a:List Value}{m:Mem}{v u:Nat→Value}{N N':Nat→List (Option Blk)}{k:Nat}{o:Oper}(hv:∀j,j≤k→v j=u j)(hN:∀j,j≤k→N j=N' j)(h:DOp P ops a m v N k o):DOp P ops a m u N' k o:=by
 unfold DOp memOf Xc Ud Js at*
 rw[←Z1 k fun j hj=>hv j (by omega),←XX k fun j hj=>hN j (by omega),←hv k (qh _),←hN k (qh _)]
 exact h
theorem Vh{vs:List Value}{v:Value}{j:Nat}:JZ (vs++[v]) j=if j<vs.length then JZ vs j else if j=vs.length then v else undef:=by
 unfold JZ
 rw[qA]
 split
 ·rfl
 ·rename_i h
  by_cases e:j=vs.length
  ·subst e;simp
  ·rw[if_neg e,qD (by simp;omega)];rfl
theorem Vi{Ns:List (List (Option Blk))}{N:List (Option Blk)}{j:Nat}:JL (Ns++[N]) j=if j<Ns.length then JL Ns j else if j=Ns.length then N else []:=by
 unfold JL
 rw[qA]
 split
 ·rfl
 ·rename_i h
  by_cases e:j=Ns.length
  ·subst e;simp
  ·rw[if_neg e,qD (by simp;omega)];rfl
theorem slot_all{ops:Array Oper}{a:List Value}{v:Nat→Value}{q i:Nat}{o:Oper}(hap:Xr ops (befM ops.toList) q=true)(hiq:i<q)(hqs:q≤ops.size)(hi:ops[i]?=some o){t:Nat}(ht:t∈o.looksAt ops):
 (Ud ops a v i)[t]?=(Jd ops v allS a i)[t]?:=by
 refine Q6 t i fun k hk hdst=>?_
 cases hb:B ops i k
 ·have E:ops[k]?=some ops[k]:=qe (by omega)
  rw[E]at hdst
  exact absurd ht ((Oper.apart_spec (Qr hap hk hiq E hi hb)).1 t hdst)
 ·rfl
theorem memAt_succ(m:Mem)(N:Nat→List (Option Blk))(k:Nat):Js m N allS (k+1)=(Js m N allS k).app (N k):=by
 unfold Js Mem.app
 simp[Q8,allS]
end Go.Proofs.YthohbneadomgdaaGreatDoor.Abs
