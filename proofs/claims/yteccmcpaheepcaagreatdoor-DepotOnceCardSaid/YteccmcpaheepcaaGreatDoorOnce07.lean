/-
  A region that draws its order, on the abstract machine: the rule.
-/
import Derived.Test.YteccmcpaheepcaaGreatDoorOnce06
import Derived.LoopN
set_option linter.unusedSimpArgs false
set_option linter.unusedVariables false
set_option linter.unusedSectionVars false
set_option linter.unnecessarySimpa false
set_option linter.defProp false
set_option maxRecDepth 100000
set_option maxHeartbeats 16000000
open Nat renaming reduceLT → yQ, reduceEqDiff → yK, reduceAdd → yV, reduceSub → yY, reduceMul → yU
open Int renaming reduceToNat → yW, reduceLE → yX, reduceEq → yZ, reduceLT → yJ
open Int renaming ofNat_eq_natCast → qc, ofNat → qd
open Array renaming getElem?_eq_getElem → qe, getD_eq_getD_getElem? → qf, getElem?_eq_some_iff → qo, getElem?_replicate → qq, replicate → qz
open Nat renaming le_refl → qh, le_of_ble_eq_true → qi, blt → qj, lt_or_ge → qm, lt_trichotomy → qw, ble → qB
open Bool renaming and_eq_true → qk, eq_iff_iff → qu, or_false → qx, or_eq_true → qA
open List renaming ext_getElem? → qp, all_eq_true → qr, getElem?_append → qt, mem_range → qv, getElem?_eq_none → qy, range → qC
namespace Go.Proofs.YteccmcpaheepcaaGreatDoor.Abs
open Go
section
variable [Defs]
def XC(f:Nat→Bool):Nat→Nat
 |0=>0
 |n+1=>XC f n+if f n then 0 else 1
theorem ZH{f:Nat→Bool}{i:Nat}(hf:f i=false):∀n,i<n→XC (fun k=>f k||k==i) n+1=XC f n:=by
 have low:∀n,n≤i→XC (fun k=>f k||k==i) n=XC f n:=by
  intro n
  induction n with
  |zero=>intro _;rfl
  |succ n ih=>
   intro h
   have hne:(n==i)=false:=by simp;omega
   simp only[XC,hne,qx,ih (by omega)]
 intro n
 induction n with
 |zero=>intro h;omega
 |succ n ih=>
  intro h
  by_cases e:n=i
  ·subst e
   simp only[XC,hf,beq_self_eq_true,Bool.or_true,if_true,Bool.false_eq_true,if_false,low n (qh _)]
  ·have hne:(n==i)=false:=by simp;omega
   have:=ih (by omega)
   simp only[XC,hne,qx]
   omega
theorem UK{f:Nat→Bool}{i:Nat}(hf:f i=false):∀n,i<n→0<XC f n
 |n+1,h=>by
  by_cases e:n=i
  ·subst e;simp[XC,hf]
  ·have:=UK hf n (by omega)
   simp only[XC];omega
theorem VT:∀n,XC (fun _=>false) n=n
 |0=>rfl
 |n+1=>by simp[XC,VT n]
theorem exists_first{f:Nat→Bool}:∀n,(∃k,k<n∧f k=false)→∃k,k<n∧f k=false∧∀j,j<k→f j=true:=by
 intro n
 induction n with
 |zero=>rintro⟨k,h,_⟩;omega
 |succ n ih=>
  rintro⟨k,h,hk⟩
  by_cases h':∃k,k<n∧f k=false
  ·obtain⟨j,h1,h2,h3⟩:=ih h'
   exact⟨j,by omega,h2,h3⟩
  ·refine⟨k,h,hk,fun j hj=>?_⟩
   cases hf:f j
   ·exact absurd ⟨j,by omega,hf⟩ h'
   ·rfl
section
variable {P : Program} {ops : Array Oper} {a₀ : List Value} {m : Mem} {v : Nat → Value} {N : Nat → List (Option Blk)}
def JS(listed:Array Bool)(k:Nat):Bool:=listed.getD k false
theorem Xf{listed:Array Bool}{i:Nat}(hi:i<listed.size):JS (listed.setIfInBounds i true)=fun k=>JS listed k||k==i:=by
 funext k
 unfold JS
 by_cases e:k=i
 ·subst e;simp[hi]
 ·have hne:(k==i)=false:=by simp[e]
  rw[getD_set_ne false (Ne.symm e),hne,qx]
theorem XJ{listed:Array Bool}(hsz:listed.size=ops.size){j:Nat}:j∈Region.ready .any ops listed↔j<ops.size∧JS listed j=false∧∃o,ops[j]?=some o∧∀e∈o.after,Region.binds .any e=true→JS listed e.on=true:=by
 rw[mem_ready]
 constructor
 ·rintro⟨h1,o,ho,h2⟩
  have hj:=(qo.1 ho).1
  refine⟨hj,?_,o,ho,h2⟩
  unfold JS
  rw[←h1]
  simp[qf,qe (show j<listed.size by omega)]
 ·rintro⟨hj,h1,o,ho,h2⟩
  refine⟨?_,o,ho,h2⟩
  unfold JS at h1
  rw[←h1]
  simp[qf,qe (show j<listed.size by omega)]
theorem ZF{listed:Array Bool}(hsz:listed.size=ops.size)(he:XM ops.toList=true)(h:∃k,k<ops.size∧JS listed k=false):Region.ready .any ops listed≠ []:=by
 obtain⟨k,h1,h2,h3⟩:=exists_first _ h
 intro hn
 have:k∈Region.ready .any ops listed:=(XJ hsz).2 ⟨h1,h2,ops[k],qe h1,fun e hm hb=>h3 _ (XG he (qe h1) hm hb)⟩
 rw[hn]at this
 cases this
theorem tail_run{q:Nat}(hq:Qm ops q=true){Q:Exit→List Value→Mem→Prop}{ι₀:Nat→Loc}{m₀:Mem}{w₀:World}:∀(l:List Oper)(k:Nat)(hk:q≤k)(hl:ops.toList.drop k=l)(fuel:Nat)(listed:Array Bool)(hsz:listed.size=ops.size)
 (hlist:∀j,j<ops.size→JS listed j=decide (j<k)) (hfuel:XC (JS listed) ops.size≤fuel) (a:List Value) (m:Mem),Xk P ops.toList (Q .normal) l a m→∀(ι:Nat→Loc)(act:Act)(w:World),Step ι₀ m₀ w₀ ι m w→ARel m.Has ι a act→Rel ι m w→
 wpAny P .any ops (UY ι₀ m₀ w₀ Q) fuel listed act w:=by
 have hq0:=hq
 simp only[Qm,qk]at hq
 obtain⟨⟨⟨hsel,hback⟩,hap⟩,hwait⟩:=hq
 intro l
 induction l with
 |nil=>
  intro k hk hl fuel listed hsz hlist hfuel a m h ι act w hs ha hr
  have hks:ops.size≤k:=by
   have:=congrArg List.length hl
   simp at this;omega
  have hrd:Region.ready .any ops listed=[]:=by
   apply List.eq_nil_iff_forall_not_mem.2
   intro j hj
   obtain⟨h1,h2,_⟩:=(XJ hsz).1 hj
   rw[hlist j h1]at h2
   simp at h2;omega
  have hpost:UY ι₀ m₀ w₀ Q .normal act w:=⟨ι,a,m,h,ha,hr,hs⟩
  cases fuel with
  |zero=>exact⟨hrd,hpost⟩
  |succ fuel=>exact⟨fun _=>hpost,fun i hi=>by rw[hrd]at hi;cases hi⟩
 |cons o l ih=>
  intro k hk hl fuel listed hsz hlist hfuel a m h ι act w hs ha hr
  have hks:k<ops.size:=by
   have:=congrArg List.length hl
   simp at this;omega
  have hko:ops[k]?=some o:=by
   have:=congrArg (fun l=>l[0]?) hl
   simpa using this
  have hunl:JS listed k=false:=by rw[hlist k hks];simp
  have hpos:=UK hunl ops.size hks
  cases fuel with
  |zero=>omega
  |succ fuel=>
   refine⟨fun hn=>absurd hn (ZF hsz hback ⟨k,hks,hunl⟩),fun i hi=>?_⟩
   obtain⟨hilt,hiu,oi,hoi,hall⟩:=(XJ hsz).1 hi
   have hik:i=k:=by
    rw[hlist i hilt]at hiu
    have hge:k≤i:=by simpa using hiu
    rcases qm k i with hlt|hle
    ·exfalso
     have hd:Down ops (JS listed):=by
      intro x ox hx hSx e hm hb
      have hxs:=(qo.1 hx).1
      rw[hlist x hxs]at hSx
      have hex:=XG hback hx hm hb
      rw[hlist _ (by omega)]
      simp at hSx ⊢;omega
     have:=hd.bef i oi hoi hall k (Vq hwait hilt (by omega) hlt)
     rw[hunl]at this;cases this
    ·omega
   subst hik
   rw[hko]at hoi;cases hoi
   have hnext:∀(a':List Value)(m':Mem)(κ:Nat→Loc)(act':Act)(w':World),Xk P ops.toList (Q .normal) l a' m'→Step ι₀ m₀ w₀ κ m' w'→ARel m'.Has κ a' act'→Rel κ m' w'→wpAny P .any ops (UY ι₀ m₀ w₀ Q) fuel (listed.setIfInBounds i true) act' w':=by
    intro a' m' κ act' w' h' hs' ha' hr'
    refine ih (i+1) (by omega) ?_ fuel _ (by simp[hsz]) (fun j hj=>?_) ?_ a' m' h' κ act' w' hs' ha' hr'
    ·have:=congrArg (List.drop 1) hl
     simpa using this
    ·rw[Xf (by omega)]
     simp only[hlist j hj]
     by_cases e:j=i
     ·subst e;simp
     ·have hne:(j==i)=false:=by simp[e]
      rw[hne,qx]
      congr 1
      apply propext
      omega
    ·have:=ZH hunl ops.size hks
     rw[Xf (by omega)]
     omega
   have hy:yielded ops act.tmps=JL ops.toList a:=funext fun j=>V1 ha ops j
   simp only[Xk]at h
   unfold wpOp
   simp only[hko,hy]
   split at h
   ·rename_i hw
    rw[if_pos hw]
    left
    unfold Oper.wp
    replace h:(∃v m',OSim P ι m w o act v m'∧Xk P ops.toList (Q .normal) l (QQ a o.dst v) m')∨(∃k xs R,Xg a o.op=some (k,xs)∧Qf P k=true∧Spec P k xs m R∧∀v m',R v m'→Xk P ops.toList (Q .normal) l (QQ a o.dst v) m'):=by
     rcases h with⟨v,m',h1,h2⟩|h|⟨R,h1,h2⟩
     ·exact .inl ⟨v,m',evOp_run hr ha h1,h2⟩
     ·exact .inr h
     ·obtain⟨v,m',h3,h4⟩:=evAny_run hr ha h1
      exact .inl ⟨v,m',h4,h2 v m' h3⟩
    rcases h with⟨v,m',h1,h2⟩|⟨f,xs,R,h1,he,hsp,h2⟩
    ·obtain⟨v',w',κ,hran,hv,hr',hs'⟩:=h1
     have ha':ARel m'.Has κ (QQ a o.dst v) (act.put o.dst v'):=(ha.mono hs'.grows hs'.at_).put' o.dst hv
     have:=hnext _ _ κ _ w' h2 (hs.trans hs') ha' hr'
     rcases hran with hran|⟨hran,rfl⟩
     ·rw[hran,Oper.upon_value];exact this
     ·rw[hran,Oper.upon_skip];exact this
    ·obtain⟨ys,hys,hrun⟩:=Vs ha h1 he
     rw[hrun w,Oper.upon_enter]
     refine(hsp ι w ys hys hr).mono ?_
     rintro e w' ⟨v,v',κ,m',hR,rfl,hv,hr',hs'⟩
     have ha':ARel m'.Has κ (QQ a o.dst v) (act.put o.dst v'):=(ha.mono hs'.grows hs'.at_).put' o.dst hv
     exact hnext _ _ κ _ w' (h2 v m' hR) (hs.trans hs') ha' hr'
   ·rename_i hw
    rw[if_neg hw]
    exact hnext _ _ ι _ w h hs (ha.put' o.dst Xp) hr
def allS:Nat→Bool:=fun _=>true
theorem head_run{q:Nat}(hq:Qm ops q=true)(hqs:q≤ops.size)(ha₀:∀(t:Nat)(x:Value),a₀[t]?=some x→Cl m.Has x)(hm:∀b x,m.get b=some x→ClBlk m.Has x)
 (hd:∀i o,i<q→ops[i]?=some o→DOp P ops a₀ m v N i o) {Q:Exit→List Value→Mem→Prop} {ι₀:Nat→Loc} {m₀:Mem} {w₀:World}
 (ht:Xk P ops.toList (Q .normal) (ops.toList.drop q) (Jd ops v allS a₀ q) (Jq m N allS q)):∀(fuel:Nat)(listed:Array Bool)(_:listed.size=ops.size)(_:XC (JS listed) ops.size≤fuel)(κ:Nat→Loc)(act:Act)(w:World),Inv ops a₀ m v N q ι₀ m₀ w₀ (JS listed) κ act w→
 wpAny P .any ops (UY ι₀ m₀ w₀ Q) fuel listed act w:=by
 have hq0:=hq
 simp only[Qm,qk]at hq
 obtain⟨⟨⟨hsel,hback⟩,hap⟩,hwait⟩:=hq
 intro fuel
 induction fuel with
 |zero=>
  intro listed hsz hfuel κ act w h
  have hall:∀j,j<q→JS listed j=true:=fun j hj=>by
   cases hg:JS listed j
   ·have:=UK hg ops.size (by omega);omega
   ·rfl
  have hmem:Jq m N (JS listed) q=Jq m N allS q:=by unfold Jq;rw[Zk (T:=allS) q fun k hk=>hall k hk]
  have hfr:Jd ops v (JS listed) a₀ q=Jd ops v allS a₀ q:=by
   apply qp
   intro t
   exact Q3 t q fun k hk _=>hall k hk
  refine tail_run hq0 _ q (qh _) rfl 0 listed hsz (fun j hj=>?_) hfuel _ _ ht κ act w (by rw[←hmem];exact h.step) (by rw[←hmem,←hfr];exact h.frame) (by rw[←hmem];exact h.rel)
  rcases qm j q with hlt|hge
  ·rw[hall j hlt];simp[hlt]
  ·rw[h.low j hge];simp;omega
 |succ fuel ih=>
  intro listed hsz hfuel κ act w h
  by_cases hall:∀j,j<q→JS listed j=true
  ·have hmem:Jq m N (JS listed) q=Jq m N allS q:=by unfold Jq;rw[Zk (T:=allS) q fun k hk=>hall k hk]
   have hfr:Jd ops v (JS listed) a₀ q=Jd ops v allS a₀ q:=by
    apply qp
    intro t
    exact Q3 t q fun k hk _=>hall k hk
   refine tail_run hq0 _ q (qh _) rfl (fuel+1) listed hsz (fun j hj=>?_) hfuel _ _ ht κ act w (by rw[←hmem];exact h.step) (by rw[←hmem,←hfr];exact h.frame) (by rw[←hmem];exact h.rel)
   rcases qm j q with hlt|hge
   ·rw[hall j hlt];simp[hlt]
   ·rw[h.low j hge];simp;omega
  ·have hex:∃j,j<q∧JS listed j=false:=by
    rcases Classical.em (∃j,j<q∧JS listed j=false)with h'|h'
    ·exact h'
    ·refine absurd (fun j hj=>?_) hall
     cases hg:JS listed j
     ·exact absurd ⟨j,hj,hg⟩ h'
     ·rfl
   obtain⟨j,hj,hjf⟩:=hex
   refine⟨fun hn=>absurd hn (ZF hsz hback ⟨j,by omega,hjf⟩),fun i hi=>?_⟩
   obtain⟨hilt,hiu,oi,hoi,hallE⟩:=(XJ hsz).1 hi
   have hiq:i<q:=by
    rcases qm i q with hlt|hge
    ·exact hlt
    ·exfalso
     have:=h.down.bef i oi hoi hallE j (Vq hwait hilt hge (by omega))
     rw[hjf]at this;cases this
   refine h.op (QW hq0) hqs ha₀ hm hoi hiq hiu hallE (hd i oi hiq hoi) fun κ' act' w' h'=>?_
   refine ih _ (by simp[hsz]) ?_ κ' act' w' (by rw[Xf (by omega)];exact h')
   have:=ZH hiu ops.size hilt
   rw[Xf (by omega)]
   omega
theorem Zl{κ:Nat→Loc}{w:World}(n:Nat)(h:Rel κ m w):Rel κ (Jq m N (fun _=>false) n) w:=by
 have hg:∀b x,(Jq m N (fun _=>false) n).get b=some x→m.get b=some x:=fun b x hb=>by
  rcases(QU _ _ _ _).1 hb with⟨_,h1⟩|⟨k,_,h1,_⟩
  ·exact h1
  ·cases h1
 refine⟨fun b ro s cs hb=>?_,fun b x hb=>(h.oth b x (hg _ _ hb)).mono (fun c hc=>(JF _ _ _).2 (.inl hc)) fun _ _=>rfl,fun b b' hb hb'=>?_,⟨h.glob.known,fun b ⟨y,hb,hy⟩=>h.glob.own b ⟨y,hg _ _ hb,hy⟩⟩⟩
 ·obtain⟨C,e,fz,h1,h2,h3,h4,h5,h6⟩:=h.at' b ro s cs (hg _ _ hb)
  refine⟨C,e,fz,h1,h2,h3,h4,fun i v hi=>?_,h6⟩
  obtain⟨h7,v',h8,h9⟩:=h5 i v hi
  exact⟨h7,v',h8,h9.mono (fun c hc=>(JF _ _ _).2 (.inl hc)) fun _ _=>rfl⟩
 ·refine h.inj b b' ?_ ?_
  ·obtain⟨x,hx⟩:=Option.ne_none_iff_exists'.1 hb
   rw[hg _ _ hx];simp
  ·obtain⟨y,hx,hy⟩:=hb'
   exact⟨y,hg _ _ hx,hy⟩
theorem AW_draw{id:Nat}{Q:Exit→List Value→Mem→Prop}(hmix:P.follows .mixedOrders=true)(q:Nat)(hq:Qm ops q=true)(hqs:q≤ops.size)
 (v:Nat→Value) (N:Nat→List (Option Blk)) (hd:∀i o,i<q→ops[i]?=some o→DOp P ops a₀ m v N i o)
 (ht:Xk P ops.toList (Q .normal) (ops.toList.drop q) (Jd ops v allS a₀ q) (Jq m N allS q)):AW P (.region id ops true) Q a₀ m:=by
 intro ι₀ m₀ w₀ ι act w hs ha hr
 refine wp_region_any hmix ?_
 have hr':Rel ι m { w with drawn:=w.drawn+1 }:=⟨hr.at',hr.oth,hr.inj,⟨hr.glob.known.keep fun _ _=>rfl,hr.glob.own⟩⟩
 have hs':Step ι₀ m₀ w₀ ι m { w with drawn:=w.drawn+1 }:=⟨hs.os,hs.tape,hs.output,hs.size,hs.grows,hs.at_,hs.block,hs.own⟩
 have hcl:∀(t:Nat)(x:Value),a₀[t]?=some x→Cl m.Has x:=fun t x hx=>by
  obtain⟨y,_,hy⟩:=ha.tmps.get hx
  exact hy.cl
 have hmc:=hr.clBlk
 have hgl:JS (qz ops.size false)=fun _=>false:=by
  funext k
  unfold JS
  rw[qf,qq]
  split<;>rfl
 have hfr:∀n,Jd ops v (fun _=>false) a₀ n=a₀:=by
  intro n
  induction n with
  |zero=>rfl
  |succ n ih=>simp[Jd,ih]
 refine head_run hq hqs hcl hmc hd ht ops.size _ (by simp) (by rw[hgl,VT];exact qh _) ι act _ ?_
 rw[hgl]
 refine⟨fun k o _ h=>absurd h (by simp),fun _ _=>rfl,?_,Zl q hr',?_,fun k _ h=>absurd h (by simp),fun k _ h=>absurd h (by simp)⟩
 ·rw[hfr]
  exact ha.mono (fun c hc=>(JF _ _ _).2 (.inl hc)) fun _ _=>rfl
 ·refine hs'.trans ⟨rfl,rfl,rfl,qh _,fun b hb=>(JF _ _ _).2 (.inl hb),fun _ _=>rfl,fun _ _ _=>rfl,fun b hb=>.inr ⟨b,?_,rfl⟩⟩
  obtain⟨y,hx,hy⟩:=hb
  rcases(QU _ _ _ _).1 hx with⟨_,h1⟩|⟨k,_,h1,_⟩
  ·exact⟨y,h1,hy⟩
  ·cases h1
end
end
section
variable [Defs]
section
variable {P : Program} {ops : Array Oper} {a₀ : List Value} {m : Mem} {v : Nat → Value} {N : Nat → List (Option Blk)}
def drawOK2(ops:Array Oper)(q:Nat):Bool:=
 Qm ops (q+1)&&qj q ops.size&&(qC q).all (fun j=>B ops q j||match ops[j]? with
  |some o=>still o.op&&o.guard.isNone
  |none=>false)&&match ops[q]? with
  |some o=>noCall o.op&&o.guard.isNone
  |none=>false
theorem drawOK2_spec{q:Nat}(h:drawOK2 ops q=true):Qm ops (q+1)=true∧q<ops.size∧(∀j o,j<q→ops[j]?=some o→B ops q j=false→still o.op=true∧o.guard=none)∧∃oq,ops[q]?=some oq∧noCall oq.op=true∧oq.guard=none:=by
 simp only[drawOK2,qk]at h
 obtain⟨⟨⟨h1,h2⟩,h3⟩,h4⟩:=h
 refine⟨h1,qi h2,fun j o hj ho hb=>?_,?_⟩
 ·have:=qr.1 h3 j (qv.2 hj)
  rw[hb,ho]at this
  simpa using this
 ·cases ho:ops[q]? with
  |none=>rw[ho]at h4;cases h4
  |some oq=>
   rw[ho]at h4
   simp only[qk,Option.isNone_iff_eq_none]at h4
   exact⟨oq,rfl,h4.1,h4.2⟩
theorem newsAt_nil{S T:Nat→Bool}:∀n,(∀k,k<n→S k=T k∨N k=[])→Q5 N S n=Q5 N T n
 |0,_=>rfl
 |n+1,h=>by
  simp only[Q5]
  rw[newsAt_nil n fun k hk=>h k (by omega)]
  rcases h n (by omega)with e|e
  ·rw[e]
  ·rw[e];rfl
theorem slot_of{q:Nat}(hap:Xn ops (befM ops.toList) q=true)(hqs:q≤ops.size){S:Nat→Bool}(hdown:Down ops S){i:Nat}{o:Oper}(hi:ops[i]?=some o)(hiq:i<q)(hS:S i=false)
 (hsub:∀j,B ops i j=true→S j=true):∀t,t∈o.looksAt ops→(Jd ops v S a₀ q)[t]?=(Uc ops a₀ v i)[t]?:=by
 have looks:∀t,t∈o.looksAt ops→∀k,k<q→(ops[k]?).bind (·.dst)=some t→S k=true→k<i∧B ops i k=true:=by
  intro t ht k hk hdst hSk
  cases hok:ops[k]? with
  |none=>rw[hok]at hdst;cases hdst
  |some ok=>
   rw[hok]at hdst
   simp only[Option.bind_some]at hdst
   rcases qw k i with hlt|heq|hgt
   ·refine⟨hlt,?_⟩
    cases hb:B ops i k
    ·exact absurd ht ((Oper.apart_spec (Qp hap hlt hiq hok hi hb)).1 t hdst)
    ·rfl
   ·subst heq;rw[hSk]at hS;cases hS
   ·exfalso
    cases hb:B ops k i
    ·exact absurd ht ((Oper.apart_spec (Qp hap hgt hk hi hok hb)).2.2 t hdst)
    ·have:=hdown.bef k ok hok (hdown k ok hok hSk) i hb
     rw[hS]at this;cases this
 intro t ht
 have e1:(Jd ops v S a₀ q)[t]?=(Jd ops v (fun k=>B ops i k&&decide (k<i)) a₀ q)[t]?:=Q3 t q fun k hk hdst=>by
  cases hSk:S k
  ·cases hb:B ops i k
   ·simp
   ·rw[hsub k hb]at hSk;cases hSk
  ·obtain⟨h1,h2⟩:=looks t ht k hk hdst hSk
   simp[h1,h2]
 rw[e1,Zs (i:=i) q (by omega) (fun k h1 _=>by simp;omega)]
 exact Q3 t i fun k hk _=>by simp[hk]
theorem UQ{o:Oper}{a b:List Value}(h:∀t,t∈o.looksAt ops→a[t]?=b[t]?):∀x∈o.op.operands,JC a x=JC b x:=by
 intro x hx
 cases x with
 |tmp t=>
  simp only[JC]
  refine h t ?_
  simp only[Oper.looksAt,List.mem_append,List.mem_filterMap]
  exact .inl ⟨.tmp t,by simpa using hx,rfl⟩
 |_=>rfl
theorem U3{o:Oper}(h:o.guard=none)(f:Nat→Option Bool):Region.wanted o f=true:=by unfold Region.wanted;rw[h]
theorem left_none{f:Nat→Bool}{n:Nat}(h:XC f n≤0):∀j,j<n→f j=true:=fun j hj=>by
 cases hg:f j
 ·have:=UK hg n hj;omega
 ·rfl
def Idle(P:Program)(ops:Array Oper)(a₀:List Value)(v:Nat→Value)(M':Mem)(i:Nat)(o:Oper):Prop:=
 if Region.wanted o (JL ops.toList (Uc ops a₀ v i))=true then Jz P o.op (Uc ops a₀ v i) M'=some (v i,M')else v i=undef
theorem Idle.free{M':Mem}{i:Nat}{o:Oper}(hg:o.guard=none)(h:Jz P o.op (Uc ops a₀ v i) M'=some (v i,M')):Idle P ops a₀ v M' i o:=by
 unfold Idle
 rw[if_pos (U3 hg _)]
 exact h
theorem mid_run{q:Nat}(hq:Qm ops (q+1)=true)(hqs:q<ops.size){oq:Oper}(hoq:ops[q]?=some oq)
 {Q:Exit→List Value→Mem→Prop} {ι₀:Nat→Loc} {m₀:Mem} {w₀:World} {vq:Value} {M':Mem}
 (hst:∀i o,i<q→ops[i]?=some o→B ops q i=false→Idle P ops a₀ v M' i o)
 (ht:Xk P ops.toList (Q .normal) (ops.toList.drop (q+1)) (QQ (Jd ops v allS a₀ q) oq.dst vq) M'):∀(fuel:Nat)(listed:Array Bool)(_:listed.size=ops.size)(_:XC (JS listed) ops.size≤fuel)
 (_:Down ops (JS listed)) (_:JS listed q=true) (_:∀j,q<j→JS listed j=false) (κ:Nat→Loc) (act:Act) (w:World),
 ARel M'.Has κ (QQ (Jd ops v (JS listed) a₀ q) oq.dst vq) act→Rel κ M' w→Step ι₀ m₀ w₀ κ M' w→wpAny P .any ops (UY ι₀ m₀ w₀ Q) fuel listed act w:=by
 have hq0:=hq
 simp only[Qm,qk]at hq
 obtain⟨⟨⟨hsel,hback⟩,hap⟩,hwait⟩:=hq
 have hapq:Xn ops (befM ops.toList) q=true:=by
  simp only[Xn,qk]at hap
  exact hap.1
 have done:∀(fuel:Nat)(listed:Array Bool)(_:listed.size=ops.size)(_:XC (JS listed) ops.size≤fuel)(_:JS listed q=true)(_:∀j,q<j→JS listed j=false)(κ:Nat→Loc)(act:Act)(w:World),
  ARel M'.Has κ (QQ (Jd ops v (JS listed) a₀ q) oq.dst vq) act→Rel κ M' w→Step ι₀ m₀ w₀ κ M' w→(∀j,j<q→JS listed j=true)→wpAny P .any ops (UY ι₀ m₀ w₀ Q) fuel listed act w:=by
  intro fuel listed hsz hfuel hlq hhi κ act w ha hr hs hall
  have hfr:Jd ops v (JS listed) a₀ q=Jd ops v allS a₀ q:=by
   apply qp
   intro t
   exact Q3 t q fun k hk _=>hall k hk
  rw[hfr]at ha
  refine tail_run hq0 _ (q+1) (qh _) rfl fuel listed hsz (fun j hj=>?_) hfuel _ _ ht κ act w hs ha hr
  rcases qw j q with h|h|h
  ·rw[hall j h];simp;omega
  ·subst h;rw[hlq];simp
  ·rw[hhi j h];simp;omega
 intro fuel
 induction fuel with
 |zero=>
  intro listed hsz hfuel hdown hlq hhi κ act w ha hr hs
  exact done 0 listed hsz hfuel hlq hhi κ act w ha hr hs fun j hj=>left_none hfuel j (by omega)
 |succ fuel ih=>
  intro listed hsz hfuel hdown hlq hhi κ act w ha hr hs
  by_cases hall:∀j,j<q→JS listed j=true
  ·exact done (fuel+1) listed hsz hfuel hlq hhi κ act w ha hr hs hall
  ·have hex:∃j,j<q∧JS listed j=false:=by
    rcases Classical.em (∃j,j<q∧JS listed j=false)with h'|h'
    ·exact h'
    ·refine absurd (fun j hj=>?_) hall
     cases hg:JS listed j
     ·exact absurd ⟨j,hj,hg⟩ h'
     ·rfl
   obtain⟨j,hj,hjf⟩:=hex
   refine⟨fun hn=>absurd hn (ZF hsz hback ⟨j,by omega,hjf⟩),fun i hi=>?_⟩
   obtain⟨hilt,hiu,oi,hoi,hallE⟩:=(XJ hsz).1 hi
   have hiq:i<q:=by
    rcases qw i q with h|h|h
    ·exact h
    ·subst h;rw[hlq]at hiu;cases hiu
    ·exfalso
     have:=hdown.bef i oi hoi hallE j (Vq hwait hilt (by omega) (by omega))
     rw[hjf]at this;cases this
   have hbq:B ops q i=false:=by
    cases hb:B ops q i
    ·rfl
    ·have:=hdown.bef q oq hoq (hdown q oq hoq hlq) i hb
     rw[hiu]at this;cases this
   have hI:=hst i oi hiq hoi hbq
   have hap3:=Oper.apart_spec (Qp hap hiq (Nat.lt_succ_self q) hoi hoq hbq)
   have hsub:∀k,B ops i k=true→JS listed k=true:=fun k hk=>hdown.bef i oi hoi hallE k hk
   have hsl:∀t,t∈oi.looksAt ops→(QQ (Jd ops v (JS listed) a₀ q) oq.dst vq)[t]?=(Uc ops a₀ v i)[t]?:=fun t htl=>by
    rw[aPut_get _ _ _ _ (fun e=>hap3.2.2 t e htl)]
    exact slot_of hapq (by omega) hdown hoi hiq hiu hsub t htl
   have hw:Region.wanted oi (yielded ops act.tmps)=Region.wanted oi (JL ops.toList (Uc ops a₀ v i)):=by
    refine Zg oi fun g b hg=>?_
    rw[V1 ha ops g]
    unfold JL
    simp only[Array.getElem?_toList]
    cases hog:ops[g]? with
    |none=>rfl
    |some og=>
     cases hdg:og.dst with
     |none=>simp[hdg]
     |some t=>
      simp only[hdg]
      rw[hsl t (by simp[Oper.looksAt,hg,hog,hdg])]
   have hgl:=Xf (listed:=listed) (i:=i) (by omega)
   have hnx:∀(κ':Nat→Loc)(v':Value)(w':World),VRel M'.Has κ' (v i) v'→Rel κ' M' w'→Step κ M' w κ' M' w'→wpAny P .any ops (UY ι₀ m₀ w₀ Q) fuel (listed.setIfInBounds i true) (act.put oi.dst v') w':=by
    intro κ' v' w' hv hr' hs'
    have ha':ARel M'.Has κ' (QQ (QQ (Jd ops v (JS listed) a₀ q) oq.dst vq) oi.dst (v i)) (act.put oi.dst v'):=(ha.mono hs'.grows hs'.at_).put' oi.dst hv
    refine ih _ (by simp[hsz]) ?_ ?_ ?_ (fun k hk=>?_) κ' _ w' ?_ hr' (hs.trans hs')
    ·have:=ZH hiu ops.size hilt
     rw[hgl]
     omega
    ·rw[hgl]
     intro k ok hk hSk e he hb
     simp only[qA,beq_iff_eq]at hSk ⊢
     rcases hSk with hSk|rfl
     ·exact .inl (hdown k ok hk hSk e he hb)
     ·rw[hoi]at hk;cases hk
      exact .inl (hallE e he hb)
    ·rw[hgl];simp[hlq]
    ·rw[hgl]
     have:(k==i)=false:=by simp;omega
     simp[hhi k hk,this]
    ·rw[hgl,frameAt_add hiu q hiq fun k h2 h3 hk t ht' hkt=>?_]
     ·rw[hoi]
      simp only[Option.bind_some]
      rw[aPut_comm _ _ _ _ _ (fun t e1 e2=>hap3.2.1 t e2 e1)]at ha'
      exact ha'
     ·have hkk:ops[k]?=some ops[k]:=qe (by omega)
      rw[hoi]at ht'
      rw[hkk]at hkt
      cases hb:B ops k i
      ·exact(Oper.apart_spec (Qp hapq h2 h3 hoi hkk hb)).2.1 t ht' hkt
      ·have:=hdown.bef k _ hkk (hdown k _ hkk hk) i hb
       rw[hiu]at this;cases this
   unfold wpOp
   simp only[hoi]
   rw[hw]
   unfold Idle at hI
   split
   ·rename_i hwant
    rw[if_pos hwant]at hI
    have h1:Jz P oi.op (QQ (Jd ops v (JS listed) a₀ q) oq.dst vq) M'=some (v i,M'):=by
     rw[Z6 P oi.op M' (UQ hsl)]
     exact hI
    obtain⟨v',w',κ',hran,hv,hr',hs'⟩:=evOp_run hr ha h1
    left
    unfold Oper.wp
    rcases hran with hran|⟨hran,rfl⟩
    ·rw[hran,Oper.upon_value];exact hnx κ' v' w' hv hr' hs'
    ·rw[hran,Oper.upon_skip];exact hnx κ' _ w' hv hr' hs'
   ·rename_i hwant
    rw[if_neg hwant]at hI
    exact hnx κ _ w (by rw[hI];exact Xp) hr (.refl _ _ _)
theorem head_run2R{q:Nat}(hq:Qm ops (q+1)=true)(hqs:q<ops.size){oq:Oper}(hoq:ops[q]?=some oq)(hgq:oq.guard=none)(ha₀:∀(t:Nat)(x:Value),a₀[t]?=some x→Cl m.Has x)(hm:∀b x,m.get b=some x→ClBlk m.Has x)
 (hd:∀i o,i<q→ops[i]?=some o→DOp P ops a₀ m v N i o)
 {Q:Exit→List Value→Mem→Prop} {ι₀:Nat→Loc} {m₀:Mem} {w₀:World} {R:Value→Mem→Prop}
 (hN:∀i o,i<q→ops[i]?=some o→B ops q i=false→N i=[])
 (hevq:OpSim P oq (Jd ops v allS a₀ q) (Jq m N allS q) R)
 (hall':∀vq M',R vq M'→(∀i o,i<q→ops[i]?=some o→B ops q i=false→Idle P ops a₀ v M' i o)∧
  Xk P ops.toList (Q .normal) (ops.toList.drop (q+1)) (QQ (Jd ops v allS a₀ q) oq.dst vq) M'):∀(fuel:Nat)(listed:Array Bool)(_:listed.size=ops.size)(_:XC (JS listed) ops.size≤fuel)(κ:Nat→Loc)(act:Act)(w:World),Inv ops a₀ m v N q ι₀ m₀ w₀ (JS listed) κ act w→
 wpAny P .any ops (UY ι₀ m₀ w₀ Q) fuel listed act w:=by
 have hq0:=hq
 have hho:=Zb (QW hq)
 simp only[Qm,qk]at hq
 obtain⟨⟨⟨hsel,hback⟩,hap⟩,hwait⟩:=hq
 intro fuel
 induction fuel with
 |zero=>
  intro listed hsz hfuel κ act w h
  have:=left_none hfuel q hqs
  rw[h.low q (qh _)]at this
  cases this
 |succ fuel ih=>
  intro listed hsz hfuel κ act w h
  have hlq:=h.low q (qh _)
  refine⟨fun hn=>absurd hn (ZF hsz hback ⟨q,hqs,hlq⟩),fun i hi=>?_⟩
  obtain⟨hilt,hiu,oi,hoi,hallE⟩:=(XJ hsz).1 hi
  rcases qw i q with hiq|rfl|hiq
  ·refine h.op hho (by omega) ha₀ hm hoi hiq hiu hallE (hd i oi hiq hoi) fun κ' act' w' h'=>?_
   refine ih _ (by simp[hsz]) ?_ κ' act' w' (by rw[Xf (by omega)];exact h')
   have:=ZH hiu ops.size hilt
   rw[Xf (by omega)]
   omega
  ·rw[hoq]at hoi;cases hoi
   have hsub:∀k,B ops i k=true→JS listed k=true:=fun k hk=>h.down.bef i oq hoq hallE k hk
   have hpend:∀k,k<i→JS listed k=false→B ops i k=false:=fun k hk hf=>by
    cases hb:B ops i k
    ·rfl
    ·rw[hsub k hb]at hf;cases hf
   have hmem:Jq m N (JS listed) i=Jq m N allS i:=by
    unfold Jq
    rw[newsAt_nil (T:=allS) i fun k hk=>?_]
    cases hf:JS listed k
    ·exact .inr (hN k _ hk (qe (by omega)) (hpend k hk hf))
    ·exact .inl rfl
   have hsl:∀t,t∈oq.looksAt ops→(Jd ops v (JS listed) a₀ i)[t]?=(Jd ops v allS a₀ i)[t]?:=fun t htl=>Q3 t i fun k hk hdst=>by
    cases hf:JS listed k
    ·exfalso
     have hkk:ops[k]?=some ops[k]:=qe (by omega)
     rw[hkk]at hdst
     exact(Oper.apart_spec (Qp hap hk (Nat.lt_succ_self i) hkk hoq (hpend k hk hf))).1 t hdst htl
    ·rfl
   unfold wpOp
   simp only[hoq]
   rw[U3 hgq]
   left
   refine hevq (Jd ops v (JS listed) a₀ i) κ act act w _ _ (fun x hx=>(UQ (o:=oq) hsl x hx).symm) (by rw[←hmem];exact h.frame) (by rw[←hmem];exact h.rel) rfl ?_
   intro vq M' v' w' κ' hR hv hr' hs'
   rw[←hmem]at hs'
   obtain⟨hst,ht⟩:=hall' vq M' hR
   have ha':ARel M'.Has κ' (QQ (Jd ops v (JS listed) a₀ i) oq.dst vq) (act.put oq.dst v'):=(h.frame.mono hs'.grows hs'.at_).put' oq.dst hv
   have hgl:=Xf (listed:=listed) (i:=i) (by omega)
   have hnx:wpAny P .any ops (UY ι₀ m₀ w₀ Q) fuel (listed.setIfInBounds i true) (act.put oq.dst v') w':=by
    refine mid_run hq0 hqs hoq hst ht fuel _ (by simp[hsz]) ?_ ?_ ?_ (fun k hk=>?_) κ' _ w' ?_ hr' (h.step.trans hs')
    ·have:=ZH hiu ops.size hilt
     rw[hgl]
     omega
    ·rw[hgl]
     intro k ok hk hSk e he hb
     simp only[qA,beq_iff_eq]at hSk ⊢
     rcases hSk with hSk|rfl
     ·exact .inl (h.down k ok hk hSk e he hb)
     ·rw[hoq]at hk;cases hk
      exact .inl (hallE e he hb)
    ·rw[hgl];simp
    ·rw[hgl]
     have:(k==i)=false:=by simp;omega
     simp[h.low k (by omega),this]
    ·have:Jd ops v (JS (listed.setIfInBounds i true)) a₀ i=Jd ops v (JS listed) a₀ i:=by
      apply qp
      intro t
      refine Q3 t i fun k hk _=>?_
      rw[hgl]
      have:(k==i)=false:=by simp;omega
      simp[this]
     rw[this]
     exact ha'
   exact hnx
  ·exfalso
   have:=h.down.bef i oi hoi hallE q (Vq hwait hilt (by omega) (by omega))
   rw[hlq]at this;cases this
theorem head_run2{q:Nat}(hq:Qm ops (q+1)=true)(hqs:q<ops.size){oq:Oper}(hoq:ops[q]?=some oq)(hgq:oq.guard=none)(ha₀:∀(t:Nat)(x:Value),a₀[t]?=some x→Cl m.Has x)(hm:∀b x,m.get b=some x→ClBlk m.Has x)
 (hd:∀i o,i<q→ops[i]?=some o→DOp P ops a₀ m v N i o)
 {Q:Exit→List Value→Mem→Prop} {ι₀:Nat→Loc} {m₀:Mem} {w₀:World} {vq:Value} {M':Mem}
 (hst:∀i o,i<q→ops[i]?=some o→B ops q i=false→o.guard=none∧Jz P o.op (Uc ops a₀ v i) M'=some (v i,M')∧N i=[])
 (hevq:Jz P oq.op (Jd ops v allS a₀ q) (Jq m N allS q)=some (vq,M'))
 (ht:Xk P ops.toList (Q .normal) (ops.toList.drop (q+1)) (QQ (Jd ops v allS a₀ q) oq.dst vq) M'):∀(fuel:Nat)(listed:Array Bool)(_:listed.size=ops.size)(_:XC (JS listed) ops.size≤fuel)(κ:Nat→Loc)(act:Act)(w:World),Inv ops a₀ m v N q ι₀ m₀ w₀ (JS listed) κ act w→
 wpAny P .any ops (UY ι₀ m₀ w₀ Q) fuel listed act w:=by
 exact head_run2R hq hqs hoq hgq ha₀ hm hd (fun i o hi ho hb=>(hst i o hi ho hb).2.2) (OpSim.op (R:=fun u M=>u=vq∧M=M') hevq ⟨rfl,rfl⟩) (fun u M ⟨h1,h2⟩=>by subst h1;subst h2;exact⟨fun i o hi ho hb=>.free (hst i o hi ho hb).1 (hst i o hi ho hb).2.1,ht⟩)
theorem AW_draw6{id:Nat}{Q:Exit→List Value→Mem→Prop}(hmix:P.follows .mixedOrders=true)(q:Nat)(hq1:Qm ops (q+1)=true)(hqs:q<ops.size){oq:Oper}(hoq:ops[q]?=some oq)(hgq:oq.guard=none)
 (v:Nat→Value) (N:Nat→List (Option Blk)) (hd:∀i o,i<q→ops[i]?=some o→DOp P ops a₀ m v N i o) {R:Value→Mem→Prop}
 (hN:∀i o,i<q→ops[i]?=some o→B ops q i=false→N i=[])
 (hevq:OpSim P oq (Jd ops v allS a₀ q) (Jq m N allS q) R)
 (hall':∀vq M',R vq M'→(∀i o,i<q→ops[i]?=some o→B ops q i=false→Idle P ops a₀ v M' i o)∧
  Xk P ops.toList (Q .normal) (ops.toList.drop (q+1)) (QQ (Jd ops v allS a₀ q) oq.dst vq) M'):AW P (.region id ops true) Q a₀ m:=by
 intro ι₀ m₀ w₀ ι act w hs ha hr
 refine wp_region_any hmix ?_
 have hr':Rel ι m { w with drawn:=w.drawn+1 }:=⟨hr.at',hr.oth,hr.inj,⟨hr.glob.known.keep fun _ _=>rfl,hr.glob.own⟩⟩
 have hs':Step ι₀ m₀ w₀ ι m { w with drawn:=w.drawn+1 }:=⟨hs.os,hs.tape,hs.output,hs.size,hs.grows,hs.at_,hs.block,hs.own⟩
 have hcl:∀(t:Nat)(x:Value),a₀[t]?=some x→Cl m.Has x:=fun t x hx=>by
  obtain⟨y,_,hy⟩:=ha.tmps.get hx
  exact hy.cl
 have hmc:=hr.clBlk
 have hgl:JS (qz ops.size false)=fun _=>false:=by
  funext k
  unfold JS
  rw[qf,qq]
  split<;>rfl
 have hfr:∀n,Jd ops v (fun _=>false) a₀ n=a₀:=by
  intro n
  induction n with
  |zero=>rfl
  |succ n ih=>simp[Jd,ih]
 refine head_run2R hq1 hqs hoq hgq hcl hmc hd hN hevq hall' ops.size _ (by simp) (by rw[hgl,VT];exact qh _) ι act _ ?_
 rw[hgl]
 refine⟨fun k o _ h=>absurd h (by simp),fun _ _=>rfl,?_,Zl q hr',?_,fun k _ h=>absurd h (by simp),fun k _ h=>absurd h (by simp)⟩
 ·rw[hfr]
  exact ha.mono (fun c hc=>(JF _ _ _).2 (.inl hc)) fun _ _=>rfl
 ·refine hs'.trans ⟨rfl,rfl,rfl,qh _,fun b hb=>(JF _ _ _).2 (.inl hb),fun _ _=>rfl,fun _ _ _=>rfl,fun b hb=>.inr ⟨b,?_,rfl⟩⟩
  obtain⟨y,hx,hy⟩:=hb
  rcases(QU _ _ _ _).1 hx with⟨_,h1⟩|⟨k,_,h1,_⟩
  ·exact⟨y,h1,hy⟩
  ·cases h1
theorem AW_draw4{id:Nat}{Q:Exit→List Value→Mem→Prop}(hmix:P.follows .mixedOrders=true)(q:Nat)(hq1:Qm ops (q+1)=true)(hqs:q<ops.size){oq:Oper}(hoq:ops[q]?=some oq)(hgq:oq.guard=none)
 (v:Nat→Value) (N:Nat→List (Option Blk)) (hd:∀i o,i<q→ops[i]?=some o→DOp P ops a₀ m v N i o) {vq:Value} {M':Mem}
 (hst:∀i o,i<q→ops[i]?=some o→B ops q i=false→o.guard=none∧Jz P o.op (Uc ops a₀ v i) M'=some (v i,M')∧N i=[])
 (hevq:Jz P oq.op (Jd ops v allS a₀ q) (Jq m N allS q)=some (vq,M'))
 (ht:Xk P ops.toList (Q .normal) (ops.toList.drop (q+1)) (QQ (Jd ops v allS a₀ q) oq.dst vq) M'):AW P (.region id ops true) Q a₀ m:=by
 intro ι₀ m₀ w₀ ι act w hs ha hr
 refine wp_region_any hmix ?_
 have hr':Rel ι m { w with drawn:=w.drawn+1 }:=⟨hr.at',hr.oth,hr.inj,⟨hr.glob.known.keep fun _ _=>rfl,hr.glob.own⟩⟩
 have hs':Step ι₀ m₀ w₀ ι m { w with drawn:=w.drawn+1 }:=⟨hs.os,hs.tape,hs.output,hs.size,hs.grows,hs.at_,hs.block,hs.own⟩
 have hcl:∀(t:Nat)(x:Value),a₀[t]?=some x→Cl m.Has x:=fun t x hx=>by
  obtain⟨y,_,hy⟩:=ha.tmps.get hx
  exact hy.cl
 have hmc:=hr.clBlk
 have hgl:JS (qz ops.size false)=fun _=>false:=by
  funext k
  unfold JS
  rw[qf,qq]
  split<;>rfl
 have hfr:∀n,Jd ops v (fun _=>false) a₀ n=a₀:=by
  intro n
  induction n with
  |zero=>rfl
  |succ n ih=>simp[Jd,ih]
 refine head_run2 hq1 hqs hoq hgq hcl hmc hd hst hevq ht ops.size _ (by simp) (by rw[hgl,VT];exact qh _) ι act _ ?_
 rw[hgl]
 refine⟨fun k o _ h=>absurd h (by simp),fun _ _=>rfl,?_,Zl q hr',?_,fun k _ h=>absurd h (by simp),fun k _ h=>absurd h (by simp)⟩
 ·rw[hfr]
  exact ha.mono (fun c hc=>(JF _ _ _).2 (.inl hc)) fun _ _=>rfl
 ·refine hs'.trans ⟨rfl,rfl,rfl,qh _,fun b hb=>(JF _ _ _).2 (.inl hb),fun _ _=>rfl,fun _ _ _=>rfl,fun b hb=>.inr ⟨b,?_,rfl⟩⟩
  obtain⟨y,hx,hy⟩:=hb
  rcases(QU _ _ _ _).1 hx with⟨_,h1⟩|⟨k,_,h1,_⟩
  ·exact⟨y,h1,hy⟩
  ·cases h1
theorem AW_draw2{id:Nat}{Q:Exit→List Value→Mem→Prop}(hmix:P.follows .mixedOrders=true)(q:Nat)(hq:drawOK2 ops q=true)
 (v:Nat→Value) (N:Nat→List (Option Blk)) (hd:∀i o,i<q→ops[i]?=some o→DOp P ops a₀ m v N i o)
 (hst:∀i o,i<q→ops[i]?=some o→still o.op=true→o.guard=none→Jz P o.op (Uc ops a₀ v i) (X6 ops m N i)=some (v i,X6 ops m N i)∧N i=[])
 (ht:Xk P ops.toList (Q .normal) (ops.toList.drop q) (Jd ops v allS a₀ q) (Jq m N allS q)):AW P (.region id ops true) Q a₀ m:=by
 obtain⟨hq1,hqs,hidle,oq,hoq,hnc,hgq⟩:=drawOK2_spec hq
 have hdrop:ops.toList.drop q=oq::ops.toList.drop (q+1):=by
  have hlt:q<ops.toList.length:=by simpa using hqs
  rw[List.drop_eq_getElem_cons hlt]
  congr 1
  have:=(qo.1 hoq).2
  simpa using this
 rw[hdrop]at ht
 simp only[Xk,U3 hgq,if_true,noCall_ev hnc]at ht
 obtain⟨vq,M',hevq,ht⟩:∃vq M',Jz P oq.op (Jd ops v allS a₀ q) (Jq m N allS q)=some (vq,M')∧Xk P ops.toList (Q .normal) (ops.toList.drop (q+1)) (QQ (Jd ops v allS a₀ q) oq.dst vq) M':=by
  rcases ht with⟨vq,M',h1,h2⟩|⟨_,_,_,h,_⟩|⟨_,h,_⟩
  ·exact⟨vq,M',h1,h2⟩
  ·cases h
  ·rw[noAny_ev hnc]at h;cases h
 refine AW_draw4 hmix q hq1 hqs hoq hgq v N hd (fun i o hi ho hb=>?_) hevq ht
 obtain⟨h1,h2⟩:=hidle i o hi ho hb
 obtain⟨h3,h4⟩:=hst i o hi ho h1 h2
 exact⟨h2,(still_ev h1 h3).2 M',h4⟩
end
end
section
variable [Defs]
section
variable {P : Program} {ops : Array Oper} {a₀ : List Value} {m : Mem} {v : Nat → Value} {N : Nat → List (Option Blk)}
def barOK(ops:Array Oper)(b:Nat):Bool:=(qC ops.size).all fun k=>qj k b||(qC b).all fun j=>B ops k j
def seqOK(ops:Array Oper)(q b:Nat):Bool:=(qC b).all fun k=>qj k q||(qC k).all fun j=>B ops k j
theorem barOK_spec{b:Nat}(h:barOK ops b=true){k j:Nat}(hk:k<ops.size)(hb:b≤k)(hj:j<b):B ops k j=true:=by
 have:=qr.1 h k (qv.2 hk)
 rw[qA]at this
 rcases this with h1|h1
 ·have:=qi h1;omega
 ·exact qr.1 h1 j (qv.2 hj)
theorem seqOK_spec{q b:Nat}(h:seqOK ops q b=true){k j:Nat}(hk:k<b)(hq:q≤k)(hj:j<k):B ops k j=true:=by
 have:=qr.1 h k (qv.2 hk)
 rw[qA]at this
 rcases this with h1|h1
 ·have:=qi h1;omega
 ·exact qr.1 h1 j (qv.2 hj)
def phaseOK(ops:Array Oper)(b q b':Nat):Bool:=Xt ops q&&seqOK ops q b'&&barOK ops b'&&qB b q&&qB q b'&&qB b' ops.size
theorem phaseOK_spec{b q b':Nat}(h:phaseOK ops b q b'=true):Xt ops q=true∧seqOK ops q b'=true∧barOK ops b'=true∧b≤q∧q≤b'∧b'≤ops.size:=by
 simp only[phaseOK,qk]at h
 obtain⟨⟨⟨⟨⟨h1,h2⟩,h3⟩,h4⟩,h5⟩,h6⟩:=h
 exact⟨h1,h2,h3,qi h4,qi h5,qi h6⟩
def From(P:Program)(ops:Array Oper)(Q:Exit→List Value→Mem→Prop)(b:Nat)(a:List Value)(m:Mem):Prop:=
 ∀(ι₀:Nat→Loc)(m₀:Mem)(w₀:World)(fuel:Nat)(listed:Array Bool)(_:listed.size=ops.size)(_:XC (JS listed) ops.size≤fuel)(_:∀j,j<ops.size→JS listed j=decide (j<b))(ι:Nat→Loc)(act:Act)(w:World),
  Step ι₀ m₀ w₀ ι m w→ARel m.Has ι a act→Rel ι m w→wpAny P .any ops (UY ι₀ m₀ w₀ Q) fuel listed act w
theorem From_end{Q:Exit→List Value→Mem→Prop}{b:Nat}{a:List Value}{m:Mem}(hb:ops.size≤b)(h:Q .normal a m):From P ops Q b a m:=by
 intro ι₀ m₀ w₀ fuel listed hsz hfuel hlist ι act w hs ha hr
 have hrd:Region.ready .any ops listed=[]:=by
  apply List.eq_nil_iff_forall_not_mem.2
  intro j hj
  obtain⟨h1,h2,_⟩:=(XJ hsz).1 hj
  rw[hlist j h1]at h2
  simp at h2;omega
 have hpost:UY ι₀ m₀ w₀ Q .normal act w:=⟨ι,a,m,h,ha,hr,hs⟩
 cases fuel with
 |zero=>exact⟨hrd,hpost⟩
 |succ fuel=>exact⟨fun _=>hpost,fun i hi=>by rw[hrd]at hi;cases hi⟩
theorem tail_to{q b':Nat}(hback:XM ops.toList=true)(hseq:seqOK ops q b'=true)(hbar:barOK ops b'=true)(hb':b'≤ops.size){Q:Exit→List Value→Mem→Prop}:∀(l:List Oper)(k:Nat)(_:q≤k)(_:k≤b')(_:(ops.toList.drop k).take (b'-k)=l)(a:List Value)(m:Mem),
 Xk P ops.toList (From P ops Q b') l a m→From P ops Q k a m:=by
 intro l
 induction l with
 |nil=>
  intro k hk hkb hl a m h
  have:k=b':=by
   have:=congrArg List.length hl
   simp at this;omega
  subst this
  exact h
 |cons o l ih=>
  intro k hk hkb hl a m h ι₀ m₀ w₀ fuel listed hsz hfuel hlist ι act w hs ha hr
  have hks:k<b':=by
   have:=congrArg List.length hl
   simp at this;omega
  have hko:ops[k]?=some o:=by
   have:=congrArg (fun l=>l[0]?) hl
   simp only[List.getElem?_cons_zero,List.getElem?_take,List.getElem?_drop,Array.getElem?_toList,Nat.add_zero]at this
   rwa [if_pos (by omega)]at this
  have hunl:JS listed k=false:=by rw[hlist k (by omega)];simp
  have hpos:=UK hunl ops.size (by omega)
  cases fuel with
  |zero=>omega
  |succ fuel=>
   refine⟨fun hn=>absurd hn (ZF hsz hback ⟨k,by omega,hunl⟩),fun i hi=>?_⟩
   obtain⟨hilt,hiu,oi,hoi,hall⟩:=(XJ hsz).1 hi
   have hik:i=k:=by
    rw[hlist i hilt]at hiu
    have hge:k≤i:=by simpa using hiu
    rcases qm k i with hlt|hle
    ·exfalso
     have hd:Down ops (JS listed):=by
      intro x ox hx hSx e hm hb
      have hxs:=(qo.1 hx).1
      rw[hlist x hxs]at hSx
      have hex:=XG hback hx hm hb
      rw[hlist _ (by omega)]
      simp at hSx ⊢;omega
     have hB:B ops i k=true:=by
      rcases qm i b' with h1|h1
      ·exact seqOK_spec hseq h1 (by omega) hlt
      ·exact barOK_spec hbar hilt h1 hks
     have:=hd.bef i oi hoi hall k hB
     rw[hunl]at this;cases this
    ·omega
   subst hik
   rw[hko]at hoi;cases hoi
   have hnext:∀(a':List Value)(m':Mem)(κ:Nat→Loc)(act':Act)(w':World),Xk P ops.toList (From P ops Q b') l a' m'→Step ι₀ m₀ w₀ κ m' w'→ARel m'.Has κ a' act'→Rel κ m' w'→wpAny P .any ops (UY ι₀ m₀ w₀ Q) fuel (listed.setIfInBounds i true) act' w':=by
    intro a' m' κ act' w' h' hs' ha' hr'
    refine ih (i+1) (by omega) (by omega) ?_ a' m' h' ι₀ m₀ w₀ fuel _ (by simp[hsz]) ?_ (fun j hj=>?_) κ act' w' hs' ha' hr'
    ·have:=congrArg (List.drop 1) hl
     rw[List.drop_take,List.drop_drop]at this
     simpa[Nat.sub_sub]using this
    ·have:=ZH hunl ops.size hilt
     rw[Xf (by omega)]
     omega
    ·rw[Xf (by omega)]
     simp only[hlist j hj]
     by_cases e:j=i
     ·subst e;simp
     ·have hne:(j==i)=false:=by simp[e]
      rw[hne,qx]
      congr 1
      apply propext
      omega
   have hy:yielded ops act.tmps=JL ops.toList a:=funext fun j=>V1 ha ops j
   simp only[Xk]at h
   unfold wpOp
   simp only[hko,hy]
   split at h
   ·rename_i hw
    rw[if_pos hw]
    left
    unfold Oper.wp
    replace h:(∃v m',OSim P ι m w o act v m'∧Xk P ops.toList (From P ops Q b') l (QQ a o.dst v) m')∨(∃k xs R,Xg a o.op=some (k,xs)∧Qf P k=true∧Spec P k xs m R∧∀v m',R v m'→Xk P ops.toList (From P ops Q b') l (QQ a o.dst v) m'):=by
     rcases h with⟨v,m',h1,h2⟩|h|⟨R,h1,h2⟩
     ·exact .inl ⟨v,m',evOp_run hr ha h1,h2⟩
     ·exact .inr h
     ·obtain⟨v,m',h3,h4⟩:=evAny_run hr ha h1
      exact .inl ⟨v,m',h4,h2 v m' h3⟩
    rcases h with⟨v,m',h1,h2⟩|⟨f,xs,R,h1,he,hsp,h2⟩
    ·obtain⟨v',w',κ,hran,hv,hr',hs'⟩:=h1
     have ha':ARel m'.Has κ (QQ a o.dst v) (act.put o.dst v'):=(ha.mono hs'.grows hs'.at_).put' o.dst hv
     have:=hnext _ _ κ _ w' h2 (hs.trans hs') ha' hr'
     rcases hran with hran|⟨hran,rfl⟩
     ·rw[hran,Oper.upon_value];exact this
     ·rw[hran,Oper.upon_skip];exact this
    ·obtain⟨ys,hys,hrun⟩:=Vs ha h1 he
     rw[hrun w,Oper.upon_enter]
     refine(hsp ι w ys hys hr).mono ?_
     rintro e w' ⟨v,v',κ,m',hR,rfl,hv,hr',hs'⟩
     have ha':ARel m'.Has κ (QQ a o.dst v) (act.put o.dst v'):=(ha.mono hs'.grows hs'.at_).put' o.dst hv
     exact hnext _ _ κ _ w' (h2 v m' hR) (hs.trans hs') ha' hr'
   ·rename_i hw
    rw[if_neg hw]
    exact hnext _ _ ι _ w h hs (ha.put' o.dst Xp) hr
theorem head_run3{b q b':Nat}(hho:Xt ops q=true)(hseq:seqOK ops q b'=true)(hbar:barOK ops b'=true)(hqb:q≤b')(hb':b'≤ops.size)(ha₀:∀(t:Nat)(x:Value),a₀[t]?=some x→Cl m.Has x)(hm:∀b x,m.get b=some x→ClBlk m.Has x)
 (hd:∀i o,b≤i→i<q→ops[i]?=some o→DOp P ops a₀ m v N i o) {Q:Exit→List Value→Mem→Prop} {ι₀:Nat→Loc} {m₀:Mem} {w₀:World}
 (ht:Xk P ops.toList (From P ops Q b') ((ops.toList.drop q).take (b'-q)) (Jd ops v allS a₀ q) (Jq m N allS q)):∀(fuel:Nat)(listed:Array Bool)(_:listed.size=ops.size)(_:XC (JS listed) ops.size≤fuel)(_:∀j,j<b→JS listed j=true)(κ:Nat→Loc)(act:Act)(w:World),Inv ops a₀ m v N q ι₀ m₀ w₀ (JS listed) κ act w→
 wpAny P .any ops (UY ι₀ m₀ w₀ Q) fuel listed act w:=by
 have hback:XM ops.toList=true:=by simp only[Xt,qk]at hho;exact hho.1.2
 have done:∀(fuel:Nat)(listed:Array Bool)(_:listed.size=ops.size)(_:XC (JS listed) ops.size≤fuel)(κ:Nat→Loc)(act:Act)(w:World),Inv ops a₀ m v N q ι₀ m₀ w₀ (JS listed) κ act w→(∀j,j<q→JS listed j=true)→
  wpAny P .any ops (UY ι₀ m₀ w₀ Q) fuel listed act w:=by
  intro fuel listed hsz hfuel κ act w h hall
  have hmem:Jq m N (JS listed) q=Jq m N allS q:=by unfold Jq;rw[Zk (T:=allS) q fun k hk=>hall k hk]
  have hfr:Jd ops v (JS listed) a₀ q=Jd ops v allS a₀ q:=by
   apply qp
   intro t
   exact Q3 t q fun k hk _=>hall k hk
  refine tail_to hback hseq hbar hb' _ q (qh _) hqb rfl _ _ ht ι₀ m₀ w₀ fuel listed hsz hfuel (fun j hj=>?_) κ act w (by rw[←hmem];exact h.step) (by rw[←hmem,←hfr];exact h.frame) (by rw[←hmem];exact h.rel)
  rcases qm j q with hlt|hge
  ·rw[hall j hlt];simp[hlt]
  ·rw[h.low j hge];simp;omega
 intro fuel
 induction fuel with
 |zero=>
  intro listed hsz hfuel hb κ act w h
  exact done 0 listed hsz hfuel κ act w h fun j hj=>left_none hfuel j (by omega)
 |succ fuel ih=>
  intro listed hsz hfuel hb κ act w h
  by_cases hall:∀j,j<q→JS listed j=true
  ·exact done _ listed hsz hfuel κ act w h hall
  ·have hex:∃j,j<q∧JS listed j=false:=by
    rcases Classical.em (∃j,j<q∧JS listed j=false)with h'|h'
    ·exact h'
    ·refine absurd (fun j hj=>?_) hall
     cases hg:JS listed j
     ·exact absurd ⟨j,hj,hg⟩ h'
     ·rfl
   obtain⟨j,hj,hjf⟩:=hex
   refine⟨fun hn=>absurd hn (ZF hsz hback ⟨j,by omega,hjf⟩),fun i hi=>?_⟩
   obtain⟨hilt,hiu,oi,hoi,hallE⟩:=(XJ hsz).1 hi
   have hiq:i<q:=by
    rcases qm i q with hlt|hge
    ·exact hlt
    ·exfalso
     have hB:B ops i j=true:=by
      rcases qm i b' with h1|h1
      ·exact seqOK_spec hseq h1 hge (by omega)
      ·exact barOK_spec hbar hilt h1 (by omega)
     have:=h.down.bef i oi hoi hallE j hB
     rw[hjf]at this;cases this
   have hbi:b≤i:=by
    rcases qm i b with h1|h1
    ·rw[hb i h1]at hiu;cases hiu
    ·exact h1
   refine h.op hho (by omega) ha₀ hm hoi hiq hiu hallE (hd i oi hbi hiq hoi) fun κ' act' w' h'=>?_
   refine ih _ (by simp[hsz]) ?_ (fun k hk=>?_) κ' act' w' (by rw[Xf (by omega)];exact h')
   ·have:=ZH hiu ops.size hilt
    rw[Xf (by omega)]
    omega
   ·rw[Xf (by omega)];simp[hb k hk]
def idV(ops:Array Oper)(a:List Value)(k:Nat):Value:=match(ops[k]?).bind (·.dst)with
 |some t=>(a[t]?).getD undef
 |none=>undef
theorem aPut_id(ops:Array Oper)(a:List Value)(k:Nat):QQ a ((ops[k]?).bind (·.dst)) (idV ops a k)=a:=by
 unfold idV
 cases(ops[k]?).bind (·.dst)with
 |none=>rfl
 |some t=>
  simp only[QQ]
  apply qp
  intro j
  rw[List.getElem?_set]
  split
  ·rename_i e;subst e
   split
   ·rename_i hlt;rw[List.getElem?_eq_getElem hlt];rfl
   ·rename_i hge;rw[qy (by omega)]
  ·rfl
theorem frameAt_id{S:Nat→Bool}{a:List Value}:∀n,(∀k,k<n→S k=true→v k=idV ops a k)→Jd ops v S a n=a
 |0,_=>rfl
 |n+1,h=>by
  simp only[Jd]
  rw[frameAt_id n fun k hk=>h k (by omega)]
  split
  ·rename_i hS
   rw[h n (by omega) hS,aPut_id]
  ·rfl
theorem idV_cl{a:List Value}{k:Nat}{p:Nat→Prop}(h:∀(t:Nat)(x:Value),a[t]?=some x→Cl p x):Cl p (idV ops a k):=by
 unfold idV
 have hu:Cl p undef:=⟨fun _=>⟨0,0,0,0⟩,undef,Xp⟩
 split
 ·rename_i t _
  cases hx:a[t]? with
  |none=>exact hu
  |some x=>exact h t x hx
 ·exact hu
theorem From_phase{b q b':Nat}(hok:phaseOK ops b q b'=true){Q:Exit→List Value→Mem→Prop}(hv:∀k,k<b→v k=idV ops a₀ k)(hN:∀k,k<b→N k=[])
 (hd:∀i o,b≤i→i<q→ops[i]?=some o→DOp P ops a₀ m v N i o)
 (ht:Xk P ops.toList (From P ops Q b') ((ops.toList.drop q).take (b'-q)) (Jd ops v allS a₀ q) (Jq m N allS q)):From P ops Q b a₀ m:=by
 obtain⟨hho,hseq,hbar,hbq,hqb,hb'⟩:=phaseOK_spec hok
 intro ι₀ m₀ w₀ fuel listed hsz hfuel hlist ι act w hs ha hr
 have hback:XM ops.toList=true:=by simp only[Xt,qk]at hho;exact hho.1.2
 have hcl:∀(t:Nat)(x:Value),a₀[t]?=some x→Cl m.Has x:=fun t x hx=>by
  obtain⟨y,_,hy⟩:=ha.tmps.get hx
  exact hy.cl
 have hmc:=hr.clBlk
 have hS:∀k,JS listed k=true→k<b:=fun k hk=>by
  rcases qm k ops.size with h1|h1
  ·rw[hlist k h1]at hk;simpa using hk
  ·unfold JS at hk
   rw[qf,Array.getElem?_eq_none (by omega)]at hk
   cases hk
 have hmem:Jq m N (JS listed) q=Jq m N (fun _=>false) q:=by
  unfold Jq
  rw[newsAt_nil (T:=fun _=>false) q fun k hk=>?_]
  cases hg:JS listed k
  ·exact .inl rfl
  ·exact .inr (hN k (hS k hg))
 have hfr:Jd ops v (JS listed) a₀ q=a₀:=frameAt_id q fun k _ hk=>hv k (hS k hk)
 refine head_run3 hho hseq hbar hqb hb' hcl hmc hd ht fuel listed hsz hfuel (fun j hj=>by rw[hlist j (by omega)];simp[hj]) ι act w ?_
 refine⟨?_,fun k hk=>?_,?_,?_,?_,fun k hk hSk=>?_,fun k hk hSk x hx=>?_⟩
 ·intro x ox hx hSx e hm hb
  have hxs:=(qo.1 hx).1
  have:=hS x hSx
  have hex:=XG hback hx hm hb
  rw[hlist _ (by omega)]
  simp;omega
 ·cases hg:JS listed k
  ·rfl
  ·have:=hS k hg;omega
 ·rw[hfr,hmem]
  exact ha.mono (fun c hc=>(JF _ _ _).2 (.inl hc)) fun _ _=>rfl
 ·rw[hmem];exact Zl q hr
 ·rw[hmem]
  refine hs.trans ⟨rfl,rfl,rfl,qh _,fun b hb=>(JF _ _ _).2 (.inl hb),fun _ _=>rfl,fun _ _ _=>rfl,fun b hb=>.inr ⟨b,?_,rfl⟩⟩
  obtain⟨y,hx,hy⟩:=hb
  rcases(QU _ _ _ _).1 hx with⟨_,h1⟩|⟨k,_,h1,_⟩
  ·exact⟨y,h1,hy⟩
  ·cases h1
 ·rw[hv k (hS k hSk)]
  exact(idV_cl hcl).mono fun b hb=>(VC _ _).2 (.inl hb)
 ·rw[hN k (hS k hSk)]at hx;cases hx
theorem AW_from{id:Nat}{Q:Exit→List Value→Mem→Prop}(hmix:P.follows .mixedOrders=true){a:List Value}(h:From P ops Q 0 a m):AW P (.region id ops true) Q a m:=by
 intro ι₀ m₀ w₀ ι act w hs ha hr
 refine wp_region_any hmix ?_
 have hr':Rel ι m { w with drawn:=w.drawn+1 }:=⟨hr.at',hr.oth,hr.inj,⟨hr.glob.known.keep fun _ _=>rfl,hr.glob.own⟩⟩
 have hs':Step ι₀ m₀ w₀ ι m { w with drawn:=w.drawn+1 }:=⟨hs.os,hs.tape,hs.output,hs.size,hs.grows,hs.at_,hs.block,hs.own⟩
 have hgl:JS (qz ops.size false)=fun _=>false:=by
  funext k
  unfold JS
  rw[qf,qq]
  split<;>rfl
 exact h ι₀ m₀ w₀ ops.size _ (by simp) (by rw[hgl,VT];exact qh _) (fun j _=>by rw[hgl];simp) ι act _ hs' ha hr'
end
end
def Ext(m m':Mem):Prop:=m.size≤m'.size∧(∀b,b<m.size→m'.blks[b]?=m.blks[b]?∨(m.Own b∧∃o,m'.blks[b]?=some (some o)∧Vl o=true))∧
 ∀b,m.size≤b→b<m'.size→∃o,m'.blks[b]?=some (some o)∧Vl o=true
theorem app_get_new{m:Mem}{N:List (Option Blk)}{b:Nat}{x:Blk}(hb:m.size≤b)(h:N[b-m.size]?=some (some x)):(m.app N).get b=some x:=by
 rw[get_iff]
 unfold Mem.app
 simp only[Mem.size]at hb h ⊢
 rw[qt,if_neg (by omega),List.getElem?_map,h]
 rfl
theorem app_get_old{m:Mem}{N:List (Option Blk)}{b:Nat}(hb:b<m.size):(m.app N).get b=m.get b:=by
 unfold Mem.get Mem.app
 simp only[Mem.size]at hb
 simp only
 rw[qt,if_pos hb]
theorem Z2{n:Nat}(h:n<9223372036854775808):IntKind.i64.wrap (qd n)=qd n:=by
 have e:IntKind.i64.bits=64:=rfl
 have e2:IntKind.i64.signed=true:=rfl
 unfold IntKind.wrap
 simp only[e,e2,Bool.true_and,decide_eq_true_eq]
 have h1:(qd n)%(2^64:Int)=qd n:=by
  have:(2:Int)^64=18446744073709551616:=by decide
  rw[this]
  simp only[qc];omega
 rw[h1,if_neg]
 have:(2:Int)^(64-1)=9223372036854775808:=by decide
 rw[this]
 simp only[qc];omega
noncomputable def fNat(op:BinOp)(a b:Nat):Option Value:=
 match op with
 |.add=>bif qj (Nat.add a b) 9223372036854775808 then some (.int .i64 (.ofNat (Nat.add a b)))else none
 |.sub=>bif qB b a then some (.int .i64 (.ofNat (Nat.sub a b)))else none
 |.mul=>bif qj (Nat.mul a b) 9223372036854775808 then some (.int .i64 (.ofNat (Nat.mul a b)))else none
 |.quo=>bif Nat.beq b 0 then none else some (.int .i64 (.ofNat (Nat.div a b)))
 |.rem=>bif Nat.beq b 0 then none else some (.int .i64 (.ofNat (Nat.mod a b)))
 |.and=>some (.int .i64 (.ofNat (Nat.land a b)))
 |.or=>some (.int .i64 (.ofNat (Nat.lor a b)))
 |.xor=>some (.int .i64 (.ofNat (Nat.xor a b)))
 |.eql=>some (.bool (Nat.beq a b))
 |.neq=>some (.bool (Bool.not (Nat.beq a b)))
 |.lss=>some (.bool (qj a b))
 |.leq=>some (.bool (qB a b))
 |.gtr=>some (.bool (qj b a))
 |.geq=>some (.bool (qB b a))
 |.shl=>bif qj b 64 then bif qj (Nat.mul a (Nat.pow 2 b)) 9223372036854775808 then some (.int .i64 (.ofNat (Nat.mul a (Nat.pow 2 b))))else none else none
 |.shr=>bif qj b 64 then some (.int .i64 (.ofNat (Nat.div a (Nat.pow 2 b))))else none
 |_=>none
theorem blt_iff{a b:Nat}:qj a b=true↔a<b:=by
 constructor
 ·intro h;exact qi h
 ·intro h;exact Nat.ble_eq_true_of_le h
theorem blt_dec(a b:Nat):qj a b=decide (a<b):=by
 rw[qu,blt_iff,decide_eq_true_eq]
theorem ble_dec(a b:Nat):qB a b=decide (a≤b):=by
 rw[qu,Nat.ble_eq,decide_eq_true_eq]
theorem bits_and{a b:Nat}(ha:a<9223372036854775808)(hb:b<9223372036854775808)(F:(w:Nat)→BitVec w→BitVec w→BitVec w)(G:Nat→Nat→Nat)(hF:∀x y:BitVec 64,(F 64 x y).toNat=G x.toNat y.toNat)(hG:G a b<9223372036854775808):
 IntKind.i64.wrap (((F IntKind.i64.bits (BitVec.ofInt IntKind.i64.bits (qd a)) (BitVec.ofInt IntKind.i64.bits (qd b))).toNat:Nat):Int)=qd (G a b):=by
 show IntKind.i64.wrap (((F 64 (BitVec.ofInt 64 (qd a)) (BitVec.ofInt 64 (qd b))).toNat:Nat):Int)=qd (G a b)
 have h:∀n:Nat,n<9223372036854775808→(BitVec.ofInt 64 (qd n)).toNat=n:=fun n hn=>by
  simp only[qc,BitVec.toNat_ofInt,Int.toNat_emod]
  omega
 rw[hF,h a ha,h b hb]
 exact Z2 hG
theorem fNat_spec{op:BinOp}{a b:Nat}{v:Value}(h:fNat op a b=some v)(ha:a<9223372036854775808)(hb:b<9223372036854775808)(hop:op≠ .shl∧op≠ .shr):XP op .i64 (qd a) (qd b)=some v:=by
 cases op<;>simp only[fNat]at h<;>first|(cases h;done)|skip
 case shl=>exact absurd rfl hop.1
 case shr=>exact absurd rfl hop.2
 case add=>
  cases hc:qj (Nat.add a b) 9223372036854775808<;>rw[hc]at h<;>first|(cases h;done)|skip
  cases h
  have:=Z2 (blt_iff.1 hc)
  simp only[XP]
  rw[←this];rfl
 case sub=>
  cases hc:qB b a<;>rw[hc]at h<;>first|(cases h;done)|skip
  cases h
  have hle:b≤a:=qi hc
  have e:(qd a-qd b)=qd (a-b):=by simp only[qc];omega
  simp only[XP]
  rw[e,Z2 (by omega)];rfl
 case mul=>
  cases hc:qj (Nat.mul a b) 9223372036854775808<;>rw[hc]at h<;>first|(cases h;done)|skip
  cases h
  have:=Z2 (blt_iff.1 hc)
  simp only[XP]
  rw[←this];rfl
 case quo=>
  cases hc:Nat.beq b 0<;>rw[hc]at h<;>first|(cases h;done)|skip
  cases h
  have h0:b≠0:=fun e=>by subst e;cases hc
  simp only[XP]
  rw[if_neg (by simp only[qc];omega)]
  have e:(qd a).tdiv (qd b)=qd (a/b):=rfl
  rw[e,Z2 (Nat.lt_of_le_of_lt (Nat.div_le_self a b) ha)];rfl
 case rem=>
  cases hc:Nat.beq b 0<;>rw[hc]at h<;>first|(cases h;done)|skip
  cases h
  have h0:b≠0:=fun e=>by subst e;cases hc
  simp only[XP]
  rw[if_neg (by simp only[qc];omega)]
  rfl
 case and=>
  cases h
  simp only[XP]
  have e:=bits_and ha hb (fun _ x y=>x&&&y) (fun x y=>x&&&y) (fun x y=>BitVec.toNat_and x y) (Nat.lt_of_le_of_lt Nat.and_le_left ha)
  exact congrArg (fun x=>some (Value.int .i64 x)) e
 case or=>
  cases h
  simp only[XP]
  have e:=bits_and ha hb (fun _ x y=>x|||y) (fun x y=>x|||y) (fun x y=>BitVec.toNat_or x y) (Nat.or_lt_two_pow (n:=63) ha hb)
  exact congrArg (fun x=>some (Value.int .i64 x)) e
 case xor=>
  cases h
  simp only[XP]
  have e:=bits_and ha hb (fun _ x y=>x^^^y) (fun x y=>x^^^y) (fun x y=>BitVec.toNat_xor x y) (Nat.xor_lt_two_pow (n:=63) ha hb)
  exact congrArg (fun x=>some (Value.int .i64 x)) e
 case eql=>
  cases h
  simp only[XP]
  congr 2
  rw[qu]
  simp only[beq_iff_eq,Nat.beq_eq,qc]
  omega
 case neq=>
  cases h
  simp only[XP]
  congr 2
  have e:(qd a==qd b)=Nat.beq a b:=by
   rw[qu]
   simp only[beq_iff_eq,Nat.beq_eq,qc]
   omega
  rw[bne,e]
 all_goals
  cases h
  simp only[XP,blt_dec,ble_dec]
  congr 2
  rw[qu]
  simp
noncomputable def fBin(P:Program)(op:BinOp)(t:TypeId)(cx:Bool)(x y:Value):Option Value:=
 match x,y with
 |.int .i64 (.ofNat a),.int .i64 (.ofNat b)=>bif qj a 9223372036854775808 then bif qj b 9223372036854775808 then match fNat op a b with
  |some v=>some v
  |none=>aBin P op t cx (.int .i64 (.ofNat a)) (.int .i64 (.ofNat b))
  else aBin P op t cx (.int .i64 (.ofNat a)) (.int .i64 (.ofNat b))
  else aBin P op t cx (.int .i64 (.ofNat a)) (.int .i64 (.ofNat b))
 |x,y=>aBin P op t cx x y
theorem fBin_eq{P:Program}{op:BinOp}{t:TypeId}{cx:Bool}{x y v:Value}(h:fBin P op t cx x y=some v):aBin P op t cx x y=some v:=by
 unfold fBin at h
 split at h
 ·rename_i a b
  cases ha:qj a 9223372036854775808<;>rw[ha]at h<;>first|exact h|skip
  cases hb:qj b 9223372036854775808<;>rw[hb]at h<;>first|exact h|skip
  simp only[cond_true]at h
  split at h
  ·rename_i u hu
   cases h
   have ha:=blt_iff.1 ha
   have hb:=blt_iff.1 hb
   by_cases hop:op≠ .shl∧op≠ .shr
   ·have:=fNat_spec hu ha hb hop
    cases op<;>simp only[aBin,if_true]<;>first|exact this|(exact absurd rfl hop.1)|(exact absurd rfl hop.2)
   ·have e:op=.shl∨op=.shr:=by cases op<;>simp_all
    rcases e with rfl|rfl
    ·simp only[fNat]at hu
     cases hc:qj b 64<;>rw[hc]at hu<;>first|(cases hu;done)|skip
     simp only[cond_true]at hu
     cases hd:qj (Nat.mul a (Nat.pow 2 b)) 9223372036854775808<;>rw[hd]at hu<;>first|(cases hu;done)|skip
     cases hu
     have hc:=blt_iff.1 hc
     have hd:=blt_iff.1 hd
     simp only[aBin]
     rw[if_pos (by simp only[qc];omega)]
     have e1:min (qd b).toNat IntKind.i64.bits=b:=by
      have:IntKind.i64.bits=64:=rfl
      rw[this]
      simp only[qc,Int.toNat_natCast];omega
     rw[e1]
     have e2:qd a*2^b=qd (Nat.mul a (Nat.pow 2 b)):=by
      simp only[qc,Nat.mul_eq,Nat.pow_eq,Int.natCast_mul,Int.natCast_pow];rfl
     rw[e2,Z2 hd]
    ·simp only[fNat]at hu
     cases hc:qj b 64<;>rw[hc]at hu<;>first|(cases hu;done)|skip
     cases hu
     have hc:=blt_iff.1 hc
     simp only[aBin]
     rw[if_pos (by simp only[qc];omega)]
     have e1:min (qd b).toNat IntKind.i64.bits=b:=by
      have:IntKind.i64.bits=64:=rfl
      rw[this]
      simp only[qc,Int.toNat_natCast];omega
     rw[e1]
     have e2:(2:Int)^b=qd (2^b):=by simp only[qc,Int.natCast_pow];rfl
     rw[e2]
     have e3:(qd a).fdiv (qd (2^b))=qd (a/2^b):=(Int.ofNat_fdiv a (2^b)).symm
     rw[e3];rfl
  ·exact h
 ·exact h
section
variable (P : Program) (get : Nat → Option Blk)
def gLoad(t:TypeId)(p:Value):Option Value:=
 match p with
 |.pointer (some ⟨b,o,none⟩)=>match get b with
  |some (.cells _ _ cs)=>match P.underlying t with
   |none=>none
   |some d=>if d.isRow then match P.info? t with
    |some i=>if o+i.size≤cs.length then some (.agg ((cs.drop o).take i.size).toArray)else none
    |none=>none
    else cs[o]?
  |_=>none
 |_=>none
def Xs(src dst:TypeId)(x:Value):Option Value:=
 match P.underlying src with
 |some (.slice e)=>match P.underlying dst with
  |some .string=>match P.underlying e with
   |some (.int .u8)=>match x with
    |.slice none 0 0=>some (.string ⟨#[]⟩)
    |.slice (some ⟨b,o,none⟩) n _=>match get b with
     |some (.cells _ _ cs)=>if o+n≤cs.length then match ZL ((cs.drop o).take n)with
      |some l=>some (.string ⟨⟨l⟩⟩)
      |none=>none
      else none
     |_=>none
    |_=>none
   |_=>none
  |_=>none
 |_=>none
def JY(t:TypeId)(x:Value)(lo hi:Option Value):Option Value:=
 match P.underlying t with
 |some .string=>match x with
  |.string s=>match X3 (JA s) (JA s) lo hi with
   |some (l,h)=>some (.string (bsub s l h))
   |none=>none
  |_=>none
 |some (.slice e)=>match P.info? e with
  |none=>none
  |some i=>match x with
   |.slice none 0 0=>match X3 0 0 lo hi with
    |some _=>some (.slice none 0 0)
    |none=>none
   |.slice (some ⟨b,o,none⟩) len cap=>match X3 len cap lo hi with
    |some (l,h)=>match get b with
     |some (.cells _ s _)=>if s=i.size then some (.slice (some ⟨b,o+l*i.size,none⟩) (h-l) (cap-l))else none
     |_=>none
    |none=>none
   |_=>none
 |some (.array n e)=>match P.info? e with
  |none=>none
  |some i=>match x with
   |.pointer (some ⟨b,o,none⟩)=>match X3 n n lo hi with
    |some (l,h)=>if l<n then some (.slice (some ⟨b,o+l*i.size,none⟩) (h-l) (n-l))else none
    |none=>none
   |_=>none
 |_=>none
end
section
variable {P : Program} {get get' : Nat → Option Blk} (hg : ∀ b x, get b = some x → get' b = some x)
include hg
theorem gLoad_mono{t:TypeId}{p v:Value}(h:gLoad P get t p=some v):gLoad P get' t p=some v:=by
 unfold gLoad at h ⊢
 split at h<;>first|(cases h;done)|skip
 rename_i b o
 cases hb:get b with
 |none=>rw[hb]at h;cases h
 |some x=>rw[hb]at h;simp only[hg b x hb];exact h
theorem gToString_mono{s d:TypeId}{p v:Value}(h:Xs P get s d p=some v):Xs P get' s d p=some v:=by
 unfold Xs at h ⊢
 split at h<;>first|(cases h;done)|skip
 split at h<;>first|(cases h;done)|skip
 split at h<;>first|(cases h;done)|skip
 split at h<;>first|(cases h;done)|skip
 ·exact h
 ·rename_i b o n _
  cases hb:get b with
  |none=>rw[hb]at h;cases h
  |some x=>rw[hb]at h;simp only[hg b x hb];exact h
theorem gSlice_mono{t:TypeId}{x v:Value}{lo hi:Option Value}(h:JY P get t x lo hi=some v):JY P get' t x lo hi=some v:=by
 unfold JY at h ⊢
 split at h<;>first|(cases h;done)|skip
 ·exact h
 ·split at h<;>first|(cases h;done)|skip
  split at h<;>first|(cases h;done)|skip
  ·exact h
  ·split at h<;>first|(cases h;done)|skip
   rename_i b o len cap _ l h' _
   cases hb:get b with
   |none=>rw[hb]at h;cases h
   |some x=>rw[hb]at h;simp only[hg b x hb];exact h
 ·exact h
end
def JX(vs:List Value)(k:Nat):Value:=(vs[k]?).getD undef
def JH(Ns:List (List (Option Blk)))(k:Nat):List (Option Blk):=(Ns[k]?).getD []
theorem OpSim.congr [Defs] {P:Program}{o:Oper}{a b:List Value}{m:Mem}{R:Value→Mem→Prop}(h:OpSim P o a m R)(he:∀x∈o.op.operands,JC b x=JC a x):OpSim P o b m R:=
 fun c ι act act2 w K Q hbc=>h c ι act act2 w K Q fun x hx=>by rw[←he x hx];exact hbc x hx
theorem XW{ops:Array Oper}{v u:Nat→Value}{S:Nat→Bool}{a:List Value}:∀n,(∀k,k<n→v k=u k)→Jd ops v S a n=Jd ops u S a n
 |0,_=>rfl
 |n+1,h=>by simp only[Jd,XW n fun k hk=>h k (by omega),h n (by omega)]
theorem XT{N N':Nat→List (Option Blk)}{S:Nat→Bool}:∀n,(∀k,k<n→N k=N' k)→Q5 N S n=Q5 N' S n
 |0,_=>rfl
 |n+1,h=>by simp only[Q5,XT n fun k hk=>h k (by omega),h n (by omega)]
theorem DOp_congr [Defs] {P:Program}{ops:Array Oper}{a:List Value}{m:Mem}{v u:Nat→Value}{N N':Nat→List (Option Blk)}{k:Nat}{o:Oper}(hv:∀j,j≤k→v j=u j)(hN:∀j,j≤k→N j=N' j)(h:DOp P ops a m v N k o):DOp P ops a m u N' k o:=by
 unfold DOp memOf X6 Uc Jq at*
 rw[←XW k fun j hj=>hv j (by omega),←XT k fun j hj=>hN j (by omega),←hv k (qh _),←hN k (qh _)]
 exact h
theorem Vd{vs:List Value}{v:Value}{j:Nat}:JX (vs++[v]) j=if j<vs.length then JX vs j else if j=vs.length then v else undef:=by
 unfold JX
 rw[qt]
 split
 ·rfl
 ·rename_i h
  by_cases e:j=vs.length
  ·subst e;simp
  ·rw[if_neg e,qy (by simp;omega)];rfl
theorem Ve{Ns:List (List (Option Blk))}{N:List (Option Blk)}{j:Nat}:JH (Ns++[N]) j=if j<Ns.length then JH Ns j else if j=Ns.length then N else []:=by
 unfold JH
 rw[qt]
 split
 ·rfl
 ·rename_i h
  by_cases e:j=Ns.length
  ·subst e;simp
  ·rw[if_neg e,qy (by simp;omega)];rfl
theorem slot_all{ops:Array Oper}{a:List Value}{v:Nat→Value}{q i:Nat}{o:Oper}(hap:Xn ops (befM ops.toList) q=true)(hiq:i<q)(hqs:q≤ops.size)(hi:ops[i]?=some o){t:Nat}(ht:t∈o.looksAt ops):
 (Uc ops a v i)[t]?=(Jd ops v allS a i)[t]?:=by
 refine Q3 t i fun k hk hdst=>?_
 cases hb:B ops i k
 ·have hok:ops[k]?=some ops[k]:=qe (by omega)
  rw[hok]at hdst
  exact absurd ht ((Oper.apart_spec (Qp hap hk hiq hok hi hb)).1 t hdst)
 ·rfl
theorem memAt_succ(m:Mem)(N:Nat→List (Option Blk))(k:Nat):Jq m N allS (k+1)=(Jq m N allS k).app (N k):=by
 unfold Jq Mem.app
 simp[Q5,allS]
abbrev UZ:=Operand→Option Value
noncomputable def fArgs(g:UZ)(l:List Operand):Option (List Value):=
 List.rec (motive:=fun _=>Option (List Value)) (some []) (fun x _ ih=>match g x with
  |some v=>match ih with
   |some r=>some (v::r)
   |none=>none
  |none=>none) l
noncomputable def fParts(g:UZ)(l:List (Nat×Operand)):Option (List (Nat×Value)):=
 List.rec (motive:=fun _=>Option (List (Nat×Value))) (some []) (fun p _ ih=>match g p.2 with
  |some v=>match ih with
   |some r=>some ((p.1,v)::r)
   |none=>none
  |none=>none) l
def fOpt(g:UZ)(x:Option Operand):Option (Option Value):=match x with
 |none=>some none
 |some x=>match g x with|some v=>some (some v)|none=>none
def vPick(c x y:Option Value):Option Value:=match c with
 |some (.bool true)=>x
 |some (.bool false)=>y
 |_=>none
def vBuild(P:Program)(t:TypeId)(l:Option (List (Nat×Value))):Option Value:=match l with
 |some l=>Qo P t l
 |none=>none
def vLoad(P:Program)(get:Nat→Option Blk)(t:TypeId)(p:Option Value):Option Value:=match p with
 |some p=>gLoad P get t p
 |none=>none
def vNil(x:Option Value):Option Value:=match x with
 |some (.pointer (some q))=>some (.pointer (some q))
 |some (.func (.func f) xs ys)=>some (.func (.func f) xs ys)
 |_=>none
noncomputable def vBin(P:Program)(op:BinOp)(t:TypeId)(cx:Bool)(x y:Option Value):Option Value:=match x with
 |some u=>match y with
  |some v=>fBin P op t cx u v
  |none=>none
 |none=>none
def vUn(op:UnOp)(x:Option Value):Option Value:=match x with
 |some v=>aUn op v
 |none=>none
noncomputable def vToInt(k:IntKind)(n:Int):Value:=match k,n with
 |.i64,.ofNat n=>bif qj n 9223372036854775808 then .int .i64 (.ofNat n)else .int .i64 (IntKind.i64.wrap (.ofNat n))
 |.u8,.ofNat n=>.int .u8 (.ofNat (Nat.mod n 256))
 |k,n=>.int k (k.wrap n)
noncomputable def vConv(P:Program)(get:Nat→Option Blk)(s d:TypeId)(x:Option Value):Option Value:=match x with
 |some (.int _ n)=>match P.underlying s with
  |some _=>match P.underlying d with
   |some (.int k)=>some (vToInt k n)
   |_=>none
  |none=>none
 |some (.string q)=>match P.underlying d with
  |some .string=>match P.underlying s with|some _=>some (.string q)|none=>none
  |_=>none
 |some x=>Xs P get s d x
 |none=>none
def vIface(P:Program)(t:TypeId)(x:Option Value):Option Value:=match x with
 |some v=>match P.underlying t with
  |some (.interface _)=>none
  |some _=>some (.iface t v)
  |none=>none
 |none=>none
def vFunc(fn:Fn)(l r:Option (List Value)):Option Value:=match fn with
 |.func f=>match l with
  |some l=>match r with
   |some r=>some (.func (.func f) l.toArray r.toArray)
   |none=>none
  |none=>none
 |_=>none
def vSlice(P:Program)(get:Nat→Option Blk)(t:TypeId)(x:Option Value)(lo hi:Option (Option Value))(mx:Option Operand):Option Value:=match mx with
 |none=>match x with
  |some x=>match lo with
   |some lo=>match hi with
    |some hi=>JY P get t x lo hi
    |none=>none
   |none=>none
  |none=>none
 |some _=>none
def vFieldAddr(P:Program)(t:TypeId)(x:Option Value)(f:Nat):Option Value:=match x with
 |some v=>Jf P t v f
 |none=>none
def vField(P:Program)(t:TypeId)(x:Option Value)(f:Nat):Option Value:=match x with
 |some (.agg cs)=>match P.underlying t with
  |some (.struct fs)=>match fs.toList[f]? with
   |some fd=>Vi P fd.type cs.toList fd.offset
   |none=>none
  |_=>none
 |_=>none
def vIndexAddr(P:Program)(t:TypeId)(x i:Option Value):Option Value:=match x with
 |some v=>match i with
  |some j=>aIndexAddr P t v j
  |none=>none
 |none=>none
def vIndex(P:Program)(t:TypeId)(x i:Option Value):Option Value:=match x with
 |some v=>match i with
  |some j=>Ks P t v j
  |none=>none
 |none=>none
def vExtract(x:Option Value)(i:Nat):Option Value:=match x with
 |some (.tuple cs)=>cs.toList[i]?
 |_=>none
def vMin(b:Bool)(xs:List Value):Option Value:=match xs with
 |x::r=>evMin b x r
 | []=>none
def vLen(P:Program)(ts:List TypeId)(xs:List Value):Option Value:=match ts with
 | [t]=>match xs with
   | [x]=>aLen P t x
   |_=>none
 |_=>none
def vBuiltin(P:Program)(b:Builtin)(ts:List TypeId)(xs:List Value):Option Value:=match b with
 |.len=>vLen P ts xs
 |.min=>vMin true xs
 |.max=>vMin false xs
 |_=>none
def vCall(P:Program)(callee:Callee)(ts:List TypeId)(xs:Option (List Value)):Option Value:=match callee with
 |.builtin b=>match xs with
  |some xs=>vBuiltin P b ts xs
  |none=>none
 |_=>none
noncomputable def fVal(P:Program)(g:UZ)(get:Nat→Option Blk)(o:Op):Option Value:=
 match o with
 |.move x=>g x
 |.assign x=>g x
 |.pick c x y=>vPick (g c) (g x) (g y)
 |.build t ps=>vBuild P t (fParts g ps.toList)
 |.load t p=>vLoad P get t (g p)
 |.nilCheck x=>vNil (g x)
 |.binOp op t x y _=>vBin P op t (isC x||isC y) (g x) (g y)
 |.unOp op _ x=>vUn op (g x)
 |.convert s d x=>vConv P get s d (g x)
 |.makeInterface t x=>vIface P t (g x)
 |.makeFunc fn fs cs=>vFunc fn (fArgs g fs.toList) (fArgs g cs.toList)
 |.slice t x lo hi mx=>vSlice P get t (g x) (fOpt g lo) (fOpt g hi) mx
 |.fieldAddr t x f=>vFieldAddr P t (g x) f
 |.field t x f=>vField P t (g x) f
 |.indexAddr t x i=>vIndexAddr P t (g x) (g i)
 |.index t x i=>vIndex P t (g x) (g i)
 |.extract x i=>vExtract (g x) i
 |.call c=>vCall P c.callee c.argTypes.toList (fArgs g c.args.toList)
 |_=>none
noncomputable def fCallee(g:UZ)(o:Op):Option (FuncId×List Value):=match o with
 |.call c=>match c.callee with
  |.value f=>match g f with
   |some (.func (.func k) fs cs)=>match fArgs g c.args.toList with
    |some xs=>some (k,fs.toList++xs++cs.toList)
    |none=>none
   |_=>none
  |_=>none
 |_=>none
section
variable {P : Program} {g : UZ} {a : List Value} (hg : ∀ x v, g x = some v → JC a x = some v)
include hg
theorem Xi:∀(l:List Operand){r:List Value},fArgs g l=some r→ZK a l=some r
 | [],r,h=>h
 |x::l,r,h=>by
  have e:fArgs g (x::l)=match g x with|some v=>(match fArgs g l with|some r=>some (v::r)|none=>none)|none=>none:=rfl
  rw[e]at h
  unfold ZK
  split at h<;>first|(cases h;done)|skip
  rename_i v hv
  split at h<;>first|(cases h;done)|skip
  rename_i r' hr
  cases h
  simp only[hg x v hv,Xi l hr]
theorem fParts_spec:∀(l:List (Nat×Operand)){r:List (Nat×Value)},fParts g l=some r→ZX a l=some r
 | [],r,h=>h
 |p::l,r,h=>by
  have e:fParts g (p::l)=match g p.2 with|some v=>(match fParts g l with|some r=>some ((p.1,v)::r)|none=>none)|none=>none:=rfl
  rw[e]at h
  obtain⟨i,x⟩:=p
  unfold ZX
  split at h<;>first|(cases h;done)|skip
  rename_i v hv
  split at h<;>first|(cases h;done)|skip
  rename_i r' hr
  cases h
  simp only[hg x v hv,fParts_spec l hr]
theorem fOpt_spec{x:Option Operand}{r:Option Value}(h:fOpt g x=some r):evOpt a x=some r:=by
 cases x with
 |none=>exact h
 |some x=>
  unfold fOpt at h
  unfold evOpt
  simp only at h ⊢
  split at h<;>first|(cases h;done)|skip
  rename_i v hv
  cases h
  simp only[hg x v hv]
theorem Km{o:Op}{r:FuncId×List Value}(h:fCallee g o=some r):Xg a o=some r:=by
 unfold fCallee at h
 split at h<;>first|(cases h;done)|skip
 rename_i c
 obtain⟨callee,args,ts⟩:=c
 cases callee<;>simp only at h<;>first|(cases h;done)|skip
 rename_i f
 split at h<;>first|(cases h;done)|skip
 rename_i k fs cs hk
 split at h<;>first|(cases h;done)|skip
 rename_i xs hxs
 cases h
 simp only[Xg,hg f _ hk,Xi hg _ hxs]
theorem vToInt_eq(k:IntKind)(n:Int):vToInt k n=.int k (k.wrap n):=by
 unfold vToInt
 split
 ·rename_i n
  cases h:qj n 9223372036854775808 with
  |true=>simp only[cond_true,Z2 (blt_iff.1 h)]
  |false=>rfl
 ·rename_i n
  have e:IntKind.u8.wrap (qd n)=qd (Nat.mod n 256):=by
   have e1:IntKind.u8.signed=false:=rfl
   have e2:IntKind.u8.bits=8:=rfl
   unfold IntKind.wrap
   simp only[e1,e2,Bool.false_and,Bool.false_eq_true,if_false]
   rfl
  rw[e]
 ·rfl
theorem fVal_spec{get:Nat→Option Blk}{m:Mem}(hm:∀b x,get b=some x→m.get b=some x){o:Op}{v:Value}(h:fVal P g get o=some v):Jz P o a m=some (v,m):=by
 cases o<;>simp only[fVal]at h<;>first|(cases h;done)|skip
 case move x=>simp only[Jz,hg x v h,QE]
 case assign x=>simp only[Jz,hg x v h,QE]
 case pick c x y=>
  unfold vPick at h
  split at h<;>first|(cases h;done)|skip
  ·rename_i hc;simp only[Jz,hg c _ hc,hg x v h,QE]
  ·rename_i hc;simp only[Jz,hg c _ hc,hg y v h,QE]
 case build t ps=>
  unfold vBuild at h
  split at h<;>first|(cases h;done)|skip
  rename_i l hl
  simp only[Jz,fParts_spec hg _ hl,h,QE]
 case load t p=>
  unfold vLoad at h
  split at h<;>first|(cases h;done)|skip
  rename_i q hq
  have:UW P m t q=some v:=gLoad_mono hm h
  simp only[Jz,hg p q hq,this,QE]
 case nilCheck x=>
  unfold vNil at h
  split at h<;>first|(cases h;done)|skip
  all_goals
   rename_i hx
   cases h
   simp only[Jz,hg x _ hx]
 case binOp op t x y ty=>
  unfold vBin at h
  split at h<;>first|(cases h;done)|skip
  rename_i u hu
  split at h<;>first|(cases h;done)|skip
  rename_i w hw
  simp only[Jz,hg x u hu,hg y w hw,fBin_eq h,QE]
 case unOp op t x=>
  unfold vUn at h
  split at h<;>first|(cases h;done)|skip
  rename_i u hu
  simp only[Jz,hg x u hu,h,QE]
 case convert s d x=>
  unfold vConv at h
  split at h<;>first|(cases h;done)|skip
  ·rename_i k n hx
   split at h<;>first|(cases h;done)|skip
   rename_i hs
   split at h<;>first|(cases h;done)|skip
   rename_i k' hd
   cases h
   simp only[Jz,hg x _ hx,XL,hs,hd,vToInt_eq hg]
  ·rename_i q hx
   split at h<;>first|(cases h;done)|skip
   rename_i hd
   split at h<;>first|(cases h;done)|skip
   rename_i hs
   cases h
   simp only[Jz,hg x _ hx,XL,hd,hs]
  ·rename_i u hne hne' hx
   have:UV P m s d u=some v:=gToString_mono hm h
   simp only[Jz,hg x _ hx]
   unfold XL
   split
   ·exact absurd rfl (hne _ _)
   ·exact absurd rfl (hne' _)
   ·simp only[this]
 case makeInterface t x=>
  unfold vIface at h
  split at h<;>first|(cases h;done)|skip
  rename_i u hu
  split at h<;>first|(cases h;done)|skip
  rename_i d hne hd
  cases h
  simp only[Jz,hg x u hu,hd]
 case makeFunc fn fs cs=>
  unfold vFunc at h
  split at h<;>first|(cases h;done)|skip
  split at h<;>first|(cases h;done)|skip
  rename_i l hl
  split at h<;>first|(cases h;done)|skip
  rename_i r hr
  cases h
  simp only[Jz,Xi hg _ hl,Xi hg _ hr]
 case slice t x lo hi mx=>
  unfold vSlice at h
  split at h<;>first|(cases h;done)|skip
  split at h<;>first|(cases h;done)|skip
  rename_i u hu
  split at h<;>first|(cases h;done)|skip
  rename_i l hl
  split at h<;>first|(cases h;done)|skip
  rename_i r hr
  have:aSlice P m t u l r=some v:=gSlice_mono hm h
  simp only[Jz,hg x u hu,fOpt_spec hg hl,fOpt_spec hg hr,this,QE]
 case fieldAddr t x f=>
  unfold vFieldAddr at h
  split at h<;>first|(cases h;done)|skip
  rename_i u hu
  simp only[Jz,hg x u hu,h,QE]
 case field t x f=>
  unfold vField at h
  split at h<;>first|(cases h;done)|skip
  rename_i cs hu
  split at h<;>first|(cases h;done)|skip
  rename_i fs hs
  split at h<;>first|(cases h;done)|skip
  rename_i fd hf
  simp only[Jz,hg x _ hu,hs,hf,h,QE]
 case indexAddr t x i=>
  unfold vIndexAddr at h
  split at h<;>first|(cases h;done)|skip
  rename_i u hu
  split at h<;>first|(cases h;done)|skip
  rename_i j hj
  simp only[Jz,hg x u hu,hg i j hj,h,QE]
 case index t x i=>
  unfold vIndex at h
  split at h<;>first|(cases h;done)|skip
  rename_i u hu
  split at h<;>first|(cases h;done)|skip
  rename_i j hj
  simp only[Jz,hg x u hu,hg i j hj,h,QE]
 case extract x i=>
  unfold vExtract at h
  split at h<;>first|(cases h;done)|skip
  rename_i cs hu
  simp only[Jz,hg x _ hu,h,QE]
 case call c=>
  obtain⟨callee,args,ts⟩:=c
  unfold vCall at h
  cases callee<;>simp only at h<;>first|(cases h;done)|skip
  rename_i b
  split at h<;>first|(cases h;done)|skip
  rename_i xs hxs
  simp only[Jz,Xi hg _ hxs]
  unfold vBuiltin at h
  unfold VD
  split at h<;>first|(cases h;done)|skip
  ·unfold vLen at h
   split at h<;>first|(cases h;done)|skip
   rename_i ht
   split at h<;>first|(cases h;done)|skip
   simp only[ht,h]
  ·unfold vMin at h
   split at h<;>first|(cases h;done)|skip
   simp only[h]
  ·unfold vMin at h
   split at h<;>first|(cases h;done)|skip
   simp only[h]
end
end Go.Proofs.YteccmcpaheepcaaGreatDoor.Abs
