import Derived.Test.YthohbneadomgdaaGreatDoorVisi04
import Derived.Test.YthohbneadomgdaaGreatDoorVisi05
import Derived.Laws.IdiomStrings
import Derived.MapKept
import Derived.Maps.RangeRun
set_option linter.all false
set_option maxRecDepth 100000
set_option maxHeartbeats 16000000
open Nat renaming reduceLT→yQ,reduceEqDiff→yK,reduceAdd→yV,reduceSub→yY,reduceMul→yU
open Int renaming reduceToNat→yW,reduceLE→yX,reduceEq→yZ,reduceLT→yJ
open Array renaming getElem?_toList→qc,toList_map→qf,toList_inj→qh,getElem?_eq_some_iff→qo,getElem?_eq_getElem→qp,getElem?_push→qu,toList_append→qM
open List renaming getElem?_eq_getElem→qd,getElem?_take→qi,mem_of_getElem?→qj,all_eq_true→qk,eq_nil_of_length_eq_zero→qq,getElem?_drop→qt,getElem?_eq_some_iff→qv,getElem?_map→qw,getElem_of_mem→qx,mem_cons_of_mem→qA,mem_cons_self→qD,getElem?_cons_succ→qF,getElem_mem→qH,foldl_cons→qI,getElem?_append→qJ,getElem?_modify→qK,length_append→qN,all_cons→qO,range→qP
open Nat renaming le_refl→qe,add_mul→qB,testBit_or→qE,add_assoc→qG
open Bool renaming and_eq_true→qm,false_eq_true→qC,or_eq_true→qL
open Option renaming map_eq_some_iff→qy
namespace Go.Proofs.YthohbneadomgdaaGreatDoor.Abs
open Go
def setL:List Value→Nat→List Value→List Value
 |cs,_,[]=>cs
 |cs,o,v::r=>setL (cs.set o v) (o+1) r
def setA:Array Value→Nat→List Value→Array Value
 |C,_,[]=>C
 |C,o,v::r=>setA (C.setIfInBounds o v) (o+1) r
theorem XC:∀(vs cs:List Value)(o:Nat),(setL cs o vs).length=cs.length
 | [],_,_=>rfl
 |v::r,cs,o=>by simp[setL,XC r]
theorem Vc:∀(vs:List Value)(C:Array Value)(o:Nat),(setA C o vs).toList=setL C.toList o vs
 | [],_,_=>rfl
 |v::r,C,o=>by simp[setA,setL,Vc r]
theorem ZM(C:Array Value)(o:Nat)(vs:List Value):(setA C o vs).size=C.size:=by
 rw[←Array.length_toList,Vc,XC,Array.length_toList]
theorem VJ:∀(vs cs:List Value)(o i:Nat),o+vs.length≤cs.length→(setL cs o vs)[i]?=if o≤i∧i<o+vs.length then vs[i-o]? else cs[i]?
 | [],cs,o,i,_=>by
   rw[if_neg (by simp only[List.length_nil];omega)];rfl
 |v::r,cs,o,i,h=>by
  simp only[List.length_cons]at h
  rw[setL,VJ r _ _ _ (by simp;omega)]
  by_cases h1:o+1≤i∧i<o+1+r.length
  ·rw[if_pos h1,if_pos (by simp;omega),show i-o=(i-(o+1))+1 by omega]
   rfl
  ·rw[if_neg h1,List.getElem?_set]
   by_cases h2:o=i
   ·subst h2
    rw[if_pos rfl,if_pos (by omega),if_pos (by simp)]
    simp
   ·rw[if_neg h2,if_neg (by simp;omega)]
theorem Ur:∀(vs:List Value)(w:World)(g o:Nat)(C:Array Value)(e:TypeId)(fz:Nat×Nat),w.heap[g]?=some (.cells C e fz)→(w.setCells g o vs).heap[g]?=some (.cells (setA C o vs) e fz)
 | [],_,_,_,_,_,_,h=>h
 |v::r,w,g,o,C,e,fz,h=>by
  rw[World.setCells,setA]
  refine Ur r _ g (o+1) _ e fz ?_
  simp[World.setCell,Array.getElem?_modify,h]
theorem Qc:∀(vs:List Value)(w:World)(g o k:Nat),k≠g→(w.setCells g o vs).heap[k]?=w.heap[k]?
 | [],_,_,_,_,_=>rfl
 |v::r,w,g,o,k,h=>by
  rw[World.setCells,Qc r _ g _ k h]
  exact RowKit.Below.heap_setCell w ⟨g,o,none⟩ v k h
theorem Uj:∀(vs:List Value)(w:World)(g o:Nat),(w.setCells g o vs).heap.size=w.heap.size∧(w.setCells g o vs).os=w.os∧(w.setCells g o vs).tape=w.tape∧(w.setCells g o vs).output=w.output
 | [],_,_,_=>⟨rfl,rfl,rfl,rfl⟩
 |v::r,w,g,o=>by
  rw[World.setCells]
  obtain⟨h1,h2,h3,h4⟩:=Uj r (w.setCell ⟨g,o,none⟩ v) g (o+1)
  exact⟨h1.trans (by simp[World.setCell]),h2,h3,h4⟩
theorem VRels.toL{n:Nat→Prop}{ι:Nat→Loc}{cs:List Value}{C:Array Value}{base:Nat}(hl:base+cs.length≤C.size)(h:∀i v,cs[i]?=some v→∃v',C[base+i]?=some v'∧VRel n ι v v'):
 VRels n ι cs ((C.toList.drop base).take cs.length):=by
 refine⟨by simp;omega,fun i x y hx hy=>?_⟩
 obtain⟨v',E,h2⟩:=h i x hx
 rw[qi]at hy
 have hi:i<cs.length:=(qv.1 hx).1
 rw[if_pos hi,qt,qc,E]at hy
 cases hy
 exact h2
theorem Qi{w:World}{g i:Nat}{C:Array Value}{e:TypeId}{fz:Nat×Nat}(h:w.heap[g]?=some (.cells C e fz)):w.cell? ⟨g,i,none⟩=C[i]?:=by
 simp[World.cell?,h]
theorem Z5{w:World}{g i:Nat}{C:Array Value}{e:TypeId}{fz:Nat×Nat}(h:w.heap[g]?=some (.cells C e fz))(hf:¬(fz.1≤i∧i<fz.2)):w.frozen? ⟨g,i,none⟩=false:=by
 obtain⟨lo,hi⟩:=fz
 simp only[World.frozen?,h]
 simp only at hf
 simp
 omega
section
variable {ι : Nat → Loc} {m : Mem} {w : World}
theorem Rel.sub(h:Rel ι m w){m':Mem}(hs:∀b,m.Has b→m'.Has b)(hg:∀b x,m'.get b=some x→m.get b=some x):Rel ι m' w where
 at' b ro s cs hb:=by
  obtain⟨C,e,fz,U,h2,O,Y,Z,h6⟩:=h.at' b ro s cs (hg b _ hb)
  exact⟨C,e,fz,U,h2,O,Y,fun i v hi=>by
   obtain⟨h7,v',h8,h9⟩:=Z i v hi
   exact⟨h7,v',h8,h9.mono hs fun _ _=>rfl⟩,h6⟩
 oth b x hb:=(h.oth b x (hg b x hb)).mono hs fun _ _=>rfl
 inj b b' hb hb' hne:=by
  obtain⟨y,I,E⟩:=hb'
  refine h.inj b b' ?_ ⟨y,hg _ _ I,E⟩ hne
  cases hx:m'.get b with
  |none=>exact absurd hx hb
  |some x=>rw[hg b x hx];simp
 glob:=⟨h.glob.known,fun b ⟨y,hb,E⟩=>h.glob.own b ⟨y,hg _ _ hb,E⟩⟩
theorem get_killed(b:Nat):(m.set b none).get b=none:=by
 unfold Mem.get Mem.set
 by_cases hb:b<m.blks.length
 ·simp[hb]
 ·have:(m.blks.set b (some none))[b]?=none:=by simp;omega
  simp only[this]
theorem own_of_set_none{b b':Nat}(h:(m.set b none).Own b'):m.Own b':=by
 obtain⟨y,h,E⟩:=h
 by_cases e:b=b'
 ·subst e
  cases hx:m.get b with
  |none=>
   rw[get_killed]at h;cases h
  |some x=>rw[Mem.get_set_same hx]at h;cases h
 ·rw[Mem.get_set_ne e]at h;exact⟨y,h,E⟩
theorem Z4{b b':Nat}{x:Blk}(h:(m.set b none).get b'=some x):m.get b'=some x∧b≠b':=by
 by_cases e:b=b'
 ·subst e
  exfalso
  cases hx:m.get b with
  |none=>
   rw[get_killed]at h;cases h
  |some x=>rw[Mem.get_set_same hx]at h;cases h
 ·rw[Mem.get_set_ne e]at h;exact⟨h,e⟩
theorem Rel.kill(h:Rel ι m w)(b:Nat):Rel ι (m.set b none) w:=h.sub (fun _ hb=>Mem.has_set none hb) fun b' x hx=>(Z4 hx).1
theorem Step.kill(b:Nat):Step ι m w ι (m.set b none) w:=
 ⟨rfl,rfl,rfl,qe _,fun _ hb=>Mem.has_set none hb,fun _ _=>rfl,fun _ _ _=>rfl,fun b' hb'=>.inr ⟨b',own_of_set_none hb',rfl⟩⟩
def Qh(ι:Nat→Loc)(n:Nat)(l:Loc):Nat→Loc:=fun b=>if b=n then l else ι b
theorem Jz{n b:Nat}(l:Loc)(h:b<n):Qh ι n l b=ι b:=by unfold Qh;rw[if_neg (by omega)]
theorem JU{n:Nat}(l:Loc):Qh ι n l n=l:=by unfold Qh;rw[if_pos rfl]
theorem Rel.push(h:Rel ι m w)(ro:Bool)(l:Loc)(cs:List Value)(C:Array Value)(e:TypeId)(fz:Nat×Nat)(hC:w.heap[l.blk]?=some (.cells C e fz))(hs:C.size=l.size)(hl:l.base+cs.length≤C.size)
 (hv:∀i v,cs[i]?=some v→v.oneCell'=true∧∃v',C[l.base+i]?=some v'∧VRel m.Has ι v v') (hf:∀i,i<C.size→¬(fz.1≤i∧i<fz.2))
 (hn:∀b,m.get b≠none→(ι b).blk≠l.blk) (hgl:ro=false→globTop≤l.blk) (htg:TagAt l.base l.stride e C.size cs.length):Rel (Qh ι m.size l) (m.push (.cells ro l.stride cs)) w where
 at' b ro' s' cs' hb:=by
  have mono:∀{v v':Value},VRel m.Has ι v v'→VRel (m.push (.cells ro l.stride cs)).Has (Qh ι m.size l) v v':=fun hv=>hv.mono (fun _ hb=>Mem.has_push _ hb) fun b hb=>Jz l (Mem.has_lt hb)
  rcases Mem.get_push hb with⟨E,hg⟩|⟨rfl,hx⟩
  ·rw[Jz l E]
   obtain⟨C',e',a2,I,h2,O,U,h5,h6⟩:=h.at' b ro' s' cs' hg
   exact⟨C',e',a2,I,h2,O,U,fun i v hi=>by
    obtain⟨h7,v',h8,h9⟩:=h5 i v hi
    exact⟨h7,v',h8,mono h9⟩,h6⟩
  ·cases hx
   rw[JU]
   exact⟨C,e,fz,hC,hs,⟨rfl,htg⟩,hl,fun i v hi=>by
    obtain⟨h7,v',h8,h9⟩:=hv i v hi
    exact⟨h7,v',h8,mono h9⟩,fun _=>hf⟩
 oth b x hb:=by
  rcases Mem.get_push hb with⟨E,hg⟩|⟨rfl,hx⟩
  ·rw[Jz l E]
   exact(h.oth b x hg).mono (fun _ hb=>Mem.has_push _ hb) fun b hb=>Jz l (Mem.has_lt hb)
  ·cases hx;trivial
 inj b b' hb hb' hne:=by
  have low:∀{c x},(m.push (.cells ro l.stride cs)).get c=some x→(c<m.size∧m.get c=some x)∨c=m.size:=fun hx=>by
   rcases Mem.get_push hx with h|⟨h,_⟩
   ·exact .inl h
   ·exact .inr h
  obtain⟨y,Y,Z⟩:=hb'
  cases hx:(m.push (.cells ro l.stride cs)).get b with
  |none=>exact absurd hx hb
  |some x=>
   rcases low hx with⟨I,h2⟩|rfl
   ·rcases low Y with⟨O,U⟩|rfl
    ·rw[Jz l I,Jz l O]
     exact h.inj b b' (by rw[h2];simp) ⟨y,U,Z⟩ hne
    ·rw[Jz l I,JU]
     exact hn b (by rw[h2];simp)
   ·rcases low Y with⟨O,U⟩|rfl
    ·rw[Jz l O,JU]
     exact Ne.symm (hn b' (by rw[U];simp))
    ·exact absurd rfl hne
 glob:=⟨h.glob.known,fun b ⟨y,Y,Z⟩=>by
  rcases Mem.get_push Y with⟨I,h2⟩|⟨rfl,h2⟩
  ·rw[Jz l I]
   exact h.glob.own b ⟨y,h2,Z⟩
  ·cases h2
   rw[JU]
   exact hgl (by simpa[Blk.own]using Z)⟩
structure OneMore(w w':World)(o:Obj):Prop where
 heap:w'.heap=w.heap.push o
 os:w'.os=w.os
 tape:w'.tape=w.tape
 output:w'.output=w.output
theorem Rel.more(h:Rel ι m w){w':World}{o:Obj}(k:OneMore w w' o):Rel ι m w' where
 at' b ro s cs hb:=by
  obtain⟨C,e,fz,E,h2⟩:=h.at' b ro s cs hb
  have I:(ι b).blk<w.heap.size:=by
   have:w.heap[(ι b).blk]?≠none:=by rw[E];simp
   simpa using this
  exact⟨C,e,fz,by rw[k.heap,qu,if_neg (by omega)];exact E,h2⟩
 oth b x hb:=by
  have E:=h.oth b x hb
  cases x with
  |cells=>trivial
  |kv ro es c=>
   obtain⟨E,h2⟩:=E
   have I:(ι b).blk<w.heap.size:=by
    have:w.heap[(ι b).blk]?≠none:=by rw[E];simp
    simpa using this
   exact⟨by rw[k.heap,qu,if_neg (by omega)];exact E,h2⟩
  |raw ro C e lo hi=>
   obtain⟨E,h2⟩:=E
   have I:(ι b).blk<w.heap.size:=by
    have:w.heap[(ι b).blk]?≠none:=by rw[E];simp
    simpa using this
   exact⟨by rw[k.heap,qu,if_neg (by omega)];exact E,h2⟩
  |it ro b' s seen l=>
   obtain⟨E,h2⟩:=E
   have I:(ι b).blk<w.heap.size:=by
    have:w.heap[(ι b).blk]?≠none:=by rw[E];simp
    simpa using this
   exact⟨by rw[k.heap,qu,if_neg (by omega)];exact E,h2⟩
 inj:=h.inj
 glob:=⟨h.glob.known.keep fun g hg=>by
  have:=h.glob.known.size
  rw[k.heap,qu,if_neg (by omega)],h.glob.own⟩
theorem Rel.lt(h:Rel ι m w){b:Nat}(hb:m.get b≠none):(ι b).blk<w.heap.size:=by
 cases hx:m.get b with
 |none=>exact absurd hx hb
 |some x=>
  have:w.heap[(ι b).blk]?≠none:=by
   cases x with
   |cells ro s cs=>obtain⟨C,e,fz,E,h2⟩:=h.at' b ro s cs hx;rw[E];simp
   |kv ro es c=>rw[(h.oth b _ hx).1];simp
   |raw ro C e lo hi=>rw[(h.oth b _ hx).1];simp
   |it ro b' s seen l=>rw[(h.oth b _ hx).1];simp
  simpa using this
theorem Rel.same(h:Rel ι m w){w':World}(k:∀g,g<w.heap.size→w'.heap[g]?=w.heap[g]?):Rel ι m w' where
 at' b ro s cs hb:=by
  obtain⟨C,e,fz,E,h2⟩:=h.at' b ro s cs hb
  exact⟨C,e,fz,by rw[k _ (qo.1 E).1];exact E,h2⟩
 oth b x hb:=by rw[k _ (h.lt (by rw[hb];simp))];exact h.oth b x hb
 inj:=h.inj
 glob:=⟨h.glob.known.keep fun g hg=>k g (Nat.lt_of_lt_of_le hg h.glob.known.size),h.glob.own⟩
theorem Rel.new(h:Rel ι m w){w':World}{C:Array Value}{e:TypeId}{fz:Nat×Nat}(k:OneMore w w' (.cells C e fz))(ro:Bool)(s:Nat)(cs:List Value)(hl:cs.length≤C.size)
 (hv:∀(i:Nat)(v:Value),cs[i]?=some v→v.oneCell'=true∧∃v',C[i]?=some v'∧VRel m.Has ι v v') (hf:∀i,i<C.size→¬(fz.1≤i∧i<fz.2)) (htg:TagAt 0 s e C.size cs.length):
 Rel (Qh ι m.size ⟨w.heap.size,0,C.size,s⟩) (m.push (.cells ro s cs)) w'∧Step ι m w (Qh ι m.size ⟨w.heap.size,0,C.size,s⟩) (m.push (.cells ro s cs)) w':=by
 refine⟨(h.more k).push ro ⟨w.heap.size,0,C.size,s⟩ cs C e fz (by rw[k.heap];simp) rfl (by simpa using hl) (by simpa using hv) hf (fun b hb=>?_) (fun _=>h.glob.known.size) htg,?_⟩
 ·have:=h.lt hb
  simp only
  omega
 ·refine⟨k.os,k.tape,k.output,by rw[k.heap];simp,fun _ hb=>Mem.has_push _ hb,fun b hb=>Jz _ (Mem.has_lt hb),fun g hg _=>by rw[k.heap,qu,if_neg (by omega)],fun b hb=>?_⟩
  obtain⟨y,I,O⟩:=hb
  rcases Mem.get_push I with⟨E,h2⟩|⟨E,_⟩
  ·exact .inr ⟨b,⟨y,h2,O⟩,by rw[Jz _ E]⟩
  ·subst E
   rw[JU]
   exact .inl (qe _)
theorem Rel.write(h:Rel ι m w){b s:Nat}{cs:List Value}(hb:m.get b=some (.cells false s cs))(o:Nat)(vs us:List Value)(ho:o+vs.length≤cs.length)(h1:∀v∈vs,v.oneCell'=true)(hr:VRels m.Has ι vs us):
 Rel ι (m.set b (some (.cells false s (setL cs o vs)))) (w.setCells (ι b).blk ((ι b).base+o) us)∧Step ι m w ι (m.set b (some (.cells false s (setL cs o vs)))) (w.setCells (ι b).blk ((ι b).base+o) us):=by
 obtain⟨C,e,fz,hC,ap,an,Y,hv,ai⟩:=h.at' b false s cs hb
 have U:=Ur us w (ι b).blk ((ι b).base+o) C e fz hC
 obtain⟨ar,hs2,ah,ad⟩:=Uj us w (ι b).blk ((ι b).base+o)
 have ax:us.length=vs.length:=hr.1.symm
 have a8:C.toList.length=C.size:=by simp
 have E:∀c,c≠b→(m.set b (some (.cells false s (setL cs o vs)))).get c=m.get c:=fun c hc=>Mem.get_set_ne (Ne.symm hc) _
 have O:=Mem.get_set_same hb (some (.cells false s (setL cs o vs)))
 refine⟨⟨?_,?_,?_,?_⟩,⟨hs2,ah,ad,by rw[ar];exact qe _,fun _ hc=>Mem.has_set _ hc,fun _ _=>rfl,?_,?_⟩⟩
 ·intro c aq s' am hc
  have up:∀{v v':Value},VRel m.Has ι v v'→VRel (m.set b (some (.cells false s (setL cs o vs)))).Has ι v v':=fun hv=>hv.mono (fun _ hc=>Mem.has_set _ hc) fun _ _=>rfl
  by_cases e:c=b
  ·subst e
   rw[O]at hc
   cases hc
   refine⟨_,_,_,U,by rw[ZM];exact ap,by rw[ZM,XC];exact an,by rw[XC,ZM];exact Y,fun i v hi=>?_,fun hro i hi=>ai rfl i (by rwa [ZM]at hi)⟩
   rw[VJ _ _ _ _ ho]at hi
   rw[←qc,Vc,VJ _ _ _ _ (by simp only[a8];omega)]
   split at hi
   ·rename_i hin
    rw[if_pos (by omega),show(ι c).base+i-((ι c).base+o)=i-o by omega]
    obtain⟨y,ao,ac⟩:=hr.get hi
    exact⟨h1 v (qj hi),y,ao,up ac⟩
   ·rename_i hout
    rw[if_neg (by omega),qc]
    obtain⟨Z,v',k2,k3⟩:=hv i v hi
    exact⟨Z,v',k2,up k3⟩
  ·rw[E c e]at hc
   obtain⟨C',e',a6,Z,k2,k3,k4,k5,k6⟩:=h.at' c aq s' am hc
   refine⟨C',e',a6,?_,k2,k3,k4,fun i v hi=>by
    obtain⟨k7,v',k8,k9⟩:=k5 i v hi
    exact⟨k7,v',k8,up k9⟩,k6⟩
   rw[Qc _ _ _ _ _ (h.inj c b (by rw[hc];simp) (.of hb) e)]
   exact Z
 ·intro c x hc
  by_cases e:c=b
  ·subst e
   rw[O]at hc
   cases hc
   trivial
  ·rw[E c e]at hc
   have Z:=h.oth c x hc
   rw[Qc _ _ _ _ _ (h.inj c b (by rw[hc];simp) (.of hb) e)]
   exact Z.mono (fun _ hc=>Mem.has_set _ hc) fun _ _=>rfl
 ·intro c c' hc al ae
  refine h.inj c c' ?_ ?_ ae
  ·intro hn
   by_cases e:c=b
   ·subst e;rw[hb]at hn;cases hn
   ·exact hc (by rw[E c e];exact hn)
  ·obtain⟨y,I,hy⟩:=al
   by_cases e:c'=b
   ·subst e;exact .of hb
   ·rw[E c' e]at I;exact⟨y,I,hy⟩
 ·have aa:=h.glob.own b (.of hb)
  refine⟨h.glob.known.keep fun g hg=>Qc _ _ _ _ _ (by omega),fun c hc=>?_⟩
  obtain⟨y,I,hy⟩:=hc
  by_cases e:c=b
  ·subst e;exact aa
  ·rw[E c e]at I;exact h.glob.own c ⟨y,I,hy⟩
 ·intro g _ hg
  exact Qc _ _ _ _ _ fun e=>hg b (.of hb) e.symm
 ·intro c hc
  obtain⟨y,I,hy⟩:=hc
  by_cases e:c=b
  ·subst e;exact .inr ⟨c,.of hb,rfl⟩
  ·rw[E c e]at I;exact .inr ⟨c,⟨y,I,hy⟩,rfl⟩
end
def Jo(vs:List Value):Bool:=vs.all (·.oneCell')
theorem XG{vs:List Value}(h:Jo vs=true):∀v∈vs,v.oneCell'=true:=by simpa[Jo]using h
def J6(P:Program)(t:TypeId):Nat:=
 if tagT=some t then 0 else
 match P.underlying t with
 |some (.array _ e)=>match P.info? e with|some i=>if i.size=0∨i.size=bufS then 1 else i.size|none=>1
 |_=>1
theorem aStride_zero{P:Program}{t:TypeId}(h:J6 P t=0):tagT=some t:=by
 unfold J6 at h
 split at h
 ·assumption
 ·split at h
  ·split at h
   ·split at h<;>omega
   ·omega
  ·omega
theorem aStride_buf{P:Program}{t:TypeId}(h:J6 P t=bufS):False:=by
 unfold J6 bufS at h
 split at h
 ·omega
 ·split at h
  ·split at h
   ·split at h<;>omega
   ·omega
  ·omega
def UZ(P:Program)(m:Mem)(t:TypeId)(p:Value):Option Value:=
 match p with
 |.pointer (some ⟨b,o,none⟩)=>match m.get b with
  |some (.cells _ _ cs)=>match P.underlying t with
   |none=>none
   |some d=>if d.isRow then match P.info? t with
    |some i=>if o+i.size≤cs.length then some (.agg ((cs.drop o).take i.size).toArray)else none
    |none=>none
    else cs[o]?
  |_=>none
 |_=>none
def Qf(P:Program)(m:Mem)(t:TypeId)(p v:Value):Option Mem:=
 match p with
 |.pointer (some ⟨b,o,none⟩)=>match m.get b with
  |some (.cells false s cs)=>match P.info? t with
   |some i=>if v.cells.toList.length=i.size∧o+v.cells.toList.length≤cs.length∧Jo v.cells.toList=true then some (m.set b (some (.cells false s (setL cs o v.cells.toList))))else none
   |none=>none
  |_=>none
 |_=>none
def aBox(P:Program)(m:Mem)(t:TypeId)(v:Value):Option (Value×Mem):=
 if Jo v.cells.toList=true then some (.pointer (some ⟨m.size,0,none⟩),m.push (.cells false (J6 P t) v.cells.toList))else none
def aAlloc(P:Program)(m:Mem)(t:TypeId):Option (Value×Mem):=
 match P.info? t with
 |some i=>match i.zero with
  |some z=>if flat 3 z=true then aBox P m t z else none
  |none=>none
 |none=>none
def U2(place:Nat→Option (Nat×Nat)):List Value→List (Nat×Value)→Option (List Value)
 |cs,[]=>some cs
 |cs,(i,v)::rest=>match place i with
  |some (off,size)=>if v.cells.toList.length=size∧off+v.cells.toList.length≤cs.length then U2 place (setL cs off v.cells.toList) rest else none
  |none=>none
def aPlaces(P:Program)(fs:List Field):Option (List (Nat×Nat)):=fs.mapM fun f=>(P.info? f.type).map fun i=>(f.offset,i.size)
def Qj(P:Program)(t:TypeId)(parts:List (Nat×Value)):Option Value:=
 match P.info? t with
 |some it=>match it.zero with
  |some z=>if flat 3 z=true then match P.underlying t with
   |some (.struct fs)=>match aPlaces P fs.toList with
    |some places=>match U2 (fun i=>places[i]?) z.cells.toList parts with
     |some cs=>some (.agg cs.toArray)
     |none=>none
    |none=>none
   |some (.array _ e)=>match P.info? e with
    |some ie=>match U2 (fun i=>some (i*ie.size,ie.size)) z.cells.toList parts with
     |some cs=>some (.agg cs.toArray)
     |none=>none
    |none=>none
   |_=>none
   else none
  |none=>none
 |none=>none
def Xz(z:List Value)(n:Nat):List Value:=
 match z with
 | [v]=>List.replicate n v
 |_=>(qP n).map fun i=>(z[i%z.length]?).getD default
def Uh(P:Program)(m:Mem)(t:TypeId)(len:Nat)(parts:List (Nat×Value)):Option (Value×Mem):=
 match P.underlying t with
 |some (.slice e)=>match P.info? e with
  |some ie=>match ie.zero with
   |some z=>if flat 3 z=true∧len*ie.size≤16777216∧0<z.cells.toList.length∧Jo z.cells.toList=true∧parts.all (fun p=>Jo p.2.cells.toList)=true then
    match U2 (fun i=>some (i*ie.size,ie.size)) (Xz z.cells.toList (len*ie.size)) parts with
    |some cs=>some (.slice (some ⟨m.size,0,none⟩) len len,m.push (.cells false ie.size cs))
    |none=>none
    else none
   |none=>none
  |none=>none
 |_=>none
def ZX(P:Program)(m:Mem)(t:TypeId)(l c:Value):Option (Value×Mem):=
 match P.underlying t with
 |some (.slice e)=>match P.info? e with
  |some ie=>match ie.zero with
   |some z=>match l,c with
    |.int _ l,.int _ c=>if flat 3 z=true∧0<z.cells.toList.length∧Jo z.cells.toList=true∧0≤l∧l≤c∧(ie.bytes:Int)*c≤281474976710656∧c≤281474976710656 then
     some (.slice (some ⟨m.size,0,none⟩) l.toNat c.toNat,m.push (.cells false ie.size (Xz z.cells.toList (c.toNat*ie.size))))
     else none
    |_,_=>none
   |none=>none
  |none=>none
 |_=>none
def Qm(s:ByteArray):List Value:=s.data.toList.map fun b=>.int .u8 b.toNat
def aToBytes(P:Program)(m:Mem)(src dst:TypeId)(s:ByteArray):Option (Value×Mem):=
 match P.underlying src with
 |some .string=>match P.underlying dst with
  |some (.slice e)=>match P.underlying e with
   |some (.int .u8)=>if JC s≤140737488355328 then some (.slice (some ⟨m.size,0,none⟩) (JC s) (JC s),m.push (.cells false 1 (Qm s)))else none
   |_=>none
  |_=>none
 |_=>none
def ZT:List Value→Option (List UInt8)
 | []=>some []
 |.int .u8 n::r=>match ZT r with|some l=>some (UInt8.ofNat n.toNat::l)|none=>none
 |_=>none
def UY(P:Program)(m:Mem)(src dst:TypeId)(x:Value):Option Value:=
 match P.underlying src with
 |some (.slice e)=>match P.underlying dst with
  |some .string=>match P.underlying e with
   |some (.int .u8)=>match x with
    |.slice none 0 0=>some (.string ⟨#[]⟩)
    |.slice (some ⟨b,o,none⟩) n _=>match m.get b with
     |some (.cells _ _ cs)=>if o+n≤cs.length then match ZT ((cs.drop o).take n)with
      |some l=>some (.string ⟨⟨l⟩⟩)
      |none=>none
      else none
     |_=>none
    |_=>none
   |_=>none
  |_=>none
 |_=>none
def aSrc(P:Program)(m:Mem)(tx:TypeId)(size:Nat)(x:Value):Option (Nat×List Value):=
 match P.underlying tx with
 |some (.slice _)=>match x with
  |.slice none 0 0=>some (0,[])
  |.slice (some ⟨b,o,none⟩) n _=>match m.get b with
   |some (.cells _ _ cs)=>if o+n*size≤cs.length then some (n,(cs.drop o).take (n*size))else none
   |_=>none
  |_=>none
 |some .string=>match x with
  |.string s=>if size=1 then some (JC s,Qm s)else none
  |_=>none
 |_=>none
def JT(P:Program)(m:Mem)(t tx:TypeId)(s x:Value):Option (Value×Mem):=
 match P.underlying t with
 |some (.slice e)=>match P.info? e with
  |some i=>match i.zero with
   |some z=>if z.cells.toList.length=i.size then match aSrc P m tx i.size x with
    |some (n,news)=>match s with
     |.slice none 0 0=>if n=0 then some (.slice none 0 0,m)else if n*i.bytes≤140737488355328∧n≤140737488355328 then
      some (.slice (some ⟨m.size,0,none⟩) n n,m.push (.cells false i.size news))else none
     |.slice (some ⟨b,o,none⟩) len cap=>
      if n=0 then some (.slice (some ⟨b,o,none⟩) len cap,m)else
      match m.get b with
      |some (.cells false st cs)=>
       if len+n≤cap then
        if o+len*i.size+news.length≤cs.length then some (.slice (some ⟨b,o,none⟩) (len+n) cap,m.set b (some (.cells false st (setL cs (o+len*i.size) news))))else none
       else if o+len*i.size≤cs.length∧st=i.size∧(len+n)*i.bytes≤140737488355328∧len+n≤140737488355328 then
        some (.slice (some ⟨m.size,0,none⟩) (len+n) (len+n),(m.set b none).push (.cells false i.size ((cs.drop o).take (len*i.size)++news)))
       else none
      |_=>none
     |_=>none
    |none=>none
    else none
   |none=>none
  |none=>none
 |_=>none
section sim
variable {P : Program} {ι : Nat → Loc} {m : Mem} {w : World}
def Sim(ι:Nat→Loc)(m:Mem)(w:World)(r:Result Value)(v:Value)(m':Mem):Prop:=
 ∃v' w' κ,r=.ok v' w'∧VRel m'.Has κ v v'∧Rel κ m' w'∧Step ι m w κ m' w'
theorem Sim.pure(h:Rel ι m w){r:Result Value}{v v':Value}(hr:r=.ok v' w)(hv:VRel m.Has ι v v'):Sim ι m w r v m:=⟨v',w,ι,hr,hv,h,Step.refl _ _ _⟩
theorem aLoad_run(h:Rel ι m w){t:TypeId}{p v:Value}(hl:UZ P m t p=some v){p':Value}(hp:VRel m.Has ι p p'):∃v',(Instr.loadAt t p').run P w=.ok v' w∧VRel m.Has ι v v':=by
 unfold UZ at hl
 split at hl<;>first|(cases hl;done)|skip
 rename_i b o
 split at hl<;>first|(cases hl;done)|skip
 rename_i ro s cs hb
 split at hl<;>first|(cases hl;done)|skip
 rename_i d hu
 cases hp
 obtain⟨C,e,fz,Y,a7,a8,I,Z,aa⟩:=h.at' b ro s cs hb
 split at hl<;>first|(cases hl;done)|skip
 ·rename_i hrow
  split at hl<;>first|(cases hl;done)|skip
  rename_i i hi
  split at hl<;>first|(cases hl;done)|skip
  rename_i hle
  have hl:=Option.some.inj hl
  subst hl
  have hr:=(((VRels.toL I fun i v hi=>(Z i v hi).2).drop o).take i.size)
  refine⟨.agg ((((C.toList.drop (ι b).base).take cs.length).drop o).take i.size).toArray,?_,.aggs (by simpa using hr)⟩
  refine run_loadAt_mid w _ _ t _ d ?_ hu hrow (by rw[hi];simp;omega)
  intro j u E
  have O:=(qv.1 E).1
  rw[Qi Y]
  simp at O E ⊢
  rw[qi]at E
  split at E
  ·rw[qt,qi]at E
   split at E
   ·rw[qt,qc]at E
    rw[←E,qG]
   ·cases E
  ·cases E
 ·rename_i hrow
  obtain⟨_,v',h1,h2⟩:=Z o v hl
  refine⟨v',?_,h2⟩
  have U:(isAgg t).run P w=.ok false w:=by
   simp only[isAgg,Sem.run_bind,run_underlying hu w,Result.andThen_ok]
   cases d<;>first|rfl|(exact absurd rfl hrow)
  have hc:w.cell? ⟨(ι b).blk,(ι b).base+o,none⟩=some v':=by rw[Qi Y];exact h1
  simp[Instr.loadAt,Instr.sureAddr,loadVar,U,hc]
theorem aStore_run(h:Rel ι m w){t:TypeId}{p v:Value}{m':Mem}(hl:Qf P m t p v=some m'){p' v':Value}(hp:VRel m.Has ι p p')(hv:VRel m.Has ι v v'):
 ∃w',(Instr.storeAt t p' v').run P w=.ok () w'∧Rel ι m' w'∧Step ι m w ι m' w':=by
 unfold Qf at hl
 split at hl<;>first|(cases hl;done)|skip
 rename_i b o
 split at hl<;>first|(cases hl;done)|skip
 rename_i s cs hb
 split at hl<;>first|(cases hl;done)|skip
 rename_i i hi
 split at hl<;>first|(cases hl;done)|skip
 rename_i hcond
 obtain⟨hs,Y,h1⟩:=hcond
 have hl:=Option.some.inj hl
 subst hl
 cases hp
 obtain⟨hR,hS⟩:=h.write hb o v.cells.toList v'.cells.toList Y (XG h1) hv.cells
 refine⟨_,?_,hR,hS⟩
 obtain⟨C,e,fz,hC,ad,O,a6,ab,a2⟩:=h.at' b false s cs hb
 have U:=hv.cells.1
 have I:∀u∈v'.cells.toList,u.oneCell'=true:=by
  intro u hu
  obtain⟨j,Z,rfl⟩:=qx hu
  have:=hv.cells.2 j (v.cells.toList[j]'(by omega)) _ (qd _) (qd Z)
  rw[this.one]
  exact XG h1 _ (qH _)
 have O:=run_storeCells_cells (P:=P) (ι b).blk ((ι b).base+o) v'.cells.toList 0 w (fun j Z=>by
  rw[Qi hC];simp;omega) (fun j Z=>Z5 hC (a2 rfl _ (by omega))) I
 have E:v'.cells.size=i.size:=by
  have:v'.cells.toList.length=v'.cells.size:=by simp
  omega
 simp only[Nat.add_zero]at O
 simp[Instr.storeAt,Instr.sureAddr,storeVar,JP hi,E,O]
theorem OneMore.alloc(w:World)(o:Obj):OneMore w (w.alloc o) o:=⟨rfl,rfl,rfl,rfl⟩
theorem OneMore.drewAlloc(w:World)(o:Obj):OneMore w (w.drew.alloc o) o:=⟨rfl,rfl,rfl,rfl⟩
theorem Rel.newCells(h:Rel ι m w){w':World}{C:Array Value}{e:TypeId}{fz:Nat×Nat}(k:OneMore w w' (.cells C e fz))(s:Nat){cs:List Value}{rest:List Value}(hv:VRels m.Has ι cs (C.toList.take cs.length))(hle:cs.length≤C.size)
 (h1:Jo cs=true) (hf:fz=(0,0)∨C.size≤fz.1) (htg:TagAt 0 s e C.size cs.length):
 Rel (Qh ι m.size ⟨w.heap.size,0,C.size,s⟩) (m.push (.cells false s cs)) w'∧Step ι m w (Qh ι m.size ⟨w.heap.size,0,C.size,s⟩) (m.push (.cells false s cs)) w':=by
 refine h.new k false s cs hle (fun i v hi=>⟨XG h1 v (qj hi),?_⟩) (fun i hi=>?_) htg
 ·obtain⟨y,E,I⟩:=hv.get hi
  rw[qi]at E
  split at E
  ·rw[qc]at E;exact⟨y,E,I⟩
  ·cases E
 ·rcases hf with rfl|hf
  ·simp
  ·omega
theorem VRels.whole{n:Nat→Prop}{cs:List Value}{C:Array Value}(h:VRels n ι cs C.toList):VRels n ι cs (C.toList.take cs.length):=by
 rw[h.1,List.take_length];exact h
theorem newPtr(x:Blk)(l:Loc):VRel (m.push x).Has (Qh ι m.size l) (.pointer (some ⟨m.size,0,none⟩)) (.pointer (some ⟨l.blk,l.base,none⟩)):=by
 have:=VRel.ptr (ι:=Qh ι m.size l) (n:=(m.push x).Has) m.size 0 (Mem.has_push_new _ _)
 rw[JU]at this
 exact this
theorem VS(x:Blk)(l:Loc)(len cap cap':Nat)(hl:len≤cap)(hc:cap'=cap∨(cap≤cap'∧l.base+cap'*l.stride≤l.size∧cap'≤maxLen)):VRel (m.push x).Has (Qh ι m.size l) (.slice (some ⟨m.size,0,none⟩) len cap) (.slice (some ⟨l.blk,l.base,none⟩) len cap'):=by
 have:=VRel.slice (ι:=Qh ι m.size l) (n:=(m.push x).Has) m.size 0 len cap cap' (Mem.has_push_new _ _) hl (by rw[JU];exact hc)
 rw[JU]at this
 exact this
theorem aBox_run(h:Rel ι m w){t:TypeId}{v u:Value}{m':Mem}(hl:aBox P m t v=some (u,m')){v':Value}(hv:VRel m.Has ι v v'):Sim ι m w ((Instr.box t v').run P w) u m':=by
 unfold aBox at hl
 split at hl<;>first|(cases hl;done)|skip
 rename_i h1
 cases hl
 have hs:v.cells.toList.length=v'.cells.size:=by rw[hv.cells.1];simp
 obtain⟨E,I⟩:=h.newCells (rest:=[]) (OneMore.alloc w (.cells v'.cells t)) (J6 P t) hv.cells.whole (by omega) h1 (.inl rfl) ⟨fun h0 _=>⟨aStride_zero h0,rfl,hs.symm⟩,fun h0=>(aStride_buf h0).elim⟩
 exact⟨.pointer (some ⟨w.heap.size,0,none⟩),_,_,rfl,newPtr _ _,E,I⟩
theorem aAlloc_run(h:Rel ι m w){t:TypeId}{u:Value}{m':Mem}(hl:aAlloc P m t=some (u,m')):Sim ι m w ((Instr.alloc t true (.tuple #[])).run P w) u m':=by
 unfold aAlloc at hl
 split at hl<;>first|(cases hl;done)|skip
 rename_i i hi
 split at hl<;>first|(cases hl;done)|skip
 rename_i z hz
 split at hl<;>first|(cases hl;done)|skip
 rename_i hf
 have:=aBox_run h hl (Qu 3 z hf)
 have e:(Instr.alloc t true (.tuple #[])).run P w=(Instr.box t z).run P w:=by
  simp[Instr.alloc,zeroValue,typeInfo,hi,hz,Instr.box]
 rw[e];exact this
inductive PRel(n:Nat→Prop)(ι:Nat→Loc):List (Nat×Value)→List (Nat×Value)→Prop
 |nil:PRel n ι [] []
 |cons (i:Nat) {v v':Value} {ps qs:List (Nat×Value)} (h:VRel n ι v v') (hs:PRel n ι ps qs):PRel n ι ((i,v)::ps) ((i,v')::qs)
theorem foldl_setA:∀(l:List Value)(k off:Nat)(C:Array Value),(l.zipIdx k).foldl (fun cs (p:Value×Nat)=>cs.setIfInBounds (off+p.2) p.1) C=setA C (off+k) l
 | [],_,_,_=>rfl
 |v::l,k,off,C=>by
  rw[List.zipIdx_cons,qI,foldl_setA l (k+1) off,setA]
  rfl
theorem aFill_run{n:Nat→Prop}{place place':Nat→Option (Nat×Nat)}(hp:∀i,place' i=place i):∀{ps qs:List (Nat×Value)}(_:PRel n ι ps qs){cs cs':List Value}{C:Array Value},VRels n ι cs C.toList→U2 place cs ps=some cs'→
 ∃C',Instr.fill place' C qs=some C'∧VRels n ι cs' C'.toList:=by
 intro ps qs Z
 induction Z with
 |nil=>intro cs cs' C I h;simp only[U2,Option.some.injEq]at h;subst h;exact⟨C,rfl,I⟩
 | @cons i v v' ps qs hv _ ih=>
   intro cs cs' C I h
   simp only[U2]at h
   split at h<;>first|(cases h;done)|skip
   rename_i off size hpl
   split at h<;>first|(cases h;done)|skip
   rename_i hc
   have hl:=hv.cells.1
   have e1:v'.cells.toList.length=v'.cells.size:=by simp
   have e2:C.toList.length=C.size:=by simp
   have a6:=I.1
   have Y:v'.cells.size=size:=by omega
   have O:¬(off+v'.cells.size>C.size):=by omega
   have U:VRels n ι (setL cs off v.cells.toList) (setA C off v'.cells.toList).toList:=by
    rw[Vc]
    refine⟨by rw[XC,XC];exact I.1,fun j x y hx hy=>?_⟩
    rw[VJ _ _ _ _ (by omega)]at hx
    rw[VJ _ _ _ _ (by omega)]at hy
    rw[←hl]at hy
    split at hx
    ·rename_i hin;rw[if_pos hin]at hy;exact hv.cells.2 _ x y hx hy
    ·rename_i hin;rw[if_neg hin]at hy;exact I.2 j x y hx hy
   obtain⟨C',h1,h2⟩:=ih U h
   refine⟨C',?_,h2⟩
   have E:(v'.cells.zipIdx.foldl (fun cs (c,j)=>cs.setIfInBounds (off+j) c) C)=setA C off v'.cells.toList:=by
    have:=foldl_setA v'.cells.toList 0 off C
    rw[Nat.add_zero]at this
    rw[←this,←Array.foldl_toList,Array.toList_zipIdx]
   simp only[Instr.fill,hp,hpl,Y,ne_eq,not_true,decide_false,Bool.false_or]
   rw[Y]at O
   simp only[O,decide_false,qC,if_false]
   rw[E]
   exact h1
theorem aFill_one{place:Nat→Option (Nat×Nat)}:∀{ps:List (Nat×Value)}{cs cs':List Value},Jo cs=true→ps.all (fun p=>Jo p.2.cells.toList)=true→U2 place cs ps=some cs'→Jo cs'=true:=by
 intro ps
 induction ps with
 |nil=>intro cs cs' h _ E;simp only[U2,Option.some.injEq]at E;subst E;exact h
 |cons p ps ih=>
  intro cs cs' h I E
  obtain⟨i,v⟩:=p
  simp only[U2]at E
  split at E<;>first|(cases E;done)|skip
  split at E<;>first|(cases E;done)|skip
  rename_i hc
  simp only[qO,qm]at I
  refine ih ?_ I.2 E
  simp only[Jo,qk]at h I ⊢
  intro x hx
  obtain⟨j,U,rfl⟩:=qx hx
  have O:=qd U
  rw[VJ _ _ _ _ hc.2]at O
  split at O
  ·exact I.1 _ (qj O)
  ·exact h _ (qj O)
theorem aBuild_run{n:Nat→Prop}{t:TypeId}{ps:List (Nat×Value)}{v:Value}(hl:Qj P t ps=some v){qs:Array (Nat×Value)}(hp:PRel n ι ps qs.toList):∃v',(∀w,(Instr.build t qs).run P w=.ok v' w)∧VRel n ι v v':=by
 unfold Qj at hl
 split at hl<;>first|(cases hl;done)|skip
 rename_i it hit
 split at hl<;>first|(cases hl;done)|skip
 rename_i z hz
 split at hl<;>first|(cases hl;done)|skip
 rename_i hf
 have I:VRels n ι z.cells.toList z.cells.toList:=(Qu (n:=n) (ι:=ι) 3 z hf).cells
 split at hl<;>first|(cases hl;done)|skip
 ·rename_i fs hu
  split at hl<;>first|(cases hl;done)|skip
  rename_i places hpl
  split at hl<;>first|(cases hl;done)|skip
  rename_i cs hfill
  have hl:=Option.some.inj hl
  subst hl
  obtain⟨E,O,h2⟩:=aFill_run (place':=(places.toArray[·]?)) (fun i=>by simp) hp I hfill
  refine⟨.agg E,fun w=>run_build w t qs E ?_,.aggs (by simpa using h2)⟩
  unfold Program.built
  simp only[hit,hu,hz]
  unfold aPlaces at hpl
  simp only[hpl]
  exact O
 ·rename_i N e hu
  split at hl<;>first|(cases hl;done)|skip
  rename_i ie hie
  split at hl<;>first|(cases hl;done)|skip
  rename_i cs hfill
  have hl:=Option.some.inj hl
  subst hl
  obtain⟨E,O,h2⟩:=aFill_run (place':=fun i=>some (i*ie.size,ie.size)) (fun i=>rfl) hp I hfill
  refine⟨.agg E,fun w=>run_build w t qs E ?_,.aggs (by simpa using h2)⟩
  unfold Program.built
  simp only[hit,hu,hz,hie]
  exact O
theorem aZeros_eq{z:Array Value}{n:Nat}(h:0<z.size):Xz z.toList n=(madeCells z n).toList:=by
 have I:(madeCells z n).toList=(qP n).map fun i=>(z.toList[i%z.toList.length]?).getD default:=by
  unfold madeCells
  rw[qf,Array.toList_range]
  apply List.map_congr_left
  intro i _
  have E:i%z.size<z.size:=Nat.mod_lt _ h
  simp[E]
 rw[I]
 unfold Xz
 split
 ·rename_i v hv
  apply List.ext_getElem?
  intro i
  rw[qw,List.getElem?_replicate]
  rw[hv]
  by_cases hi:i<n
  ·simp[hi,Nat.mod_one]
  ·simp[hi]
 ·rfl
theorem aZeros_length(z:List Value)(n:Nat):(Xz z n).length=n:=by
 unfold Xz
 split<;>simp
theorem aFill_length{place:Nat→Option (Nat×Nat)}:∀{ps:List (Nat×Value)}{cs cs':List Value},U2 place cs ps=some cs'→cs'.length=cs.length:=by
 intro ps
 induction ps with
 |nil=>intro cs cs' E;simp only[U2,Option.some.injEq]at E;rw[E]
 |cons p ps ih=>
  intro cs cs' E
  obtain⟨i,v⟩:=p
  simp only[U2]at E
  split at E<;>first|(cases E;done)|skip
  split at E<;>first|(cases E;done)|skip
  rw[ih E,XC]
theorem aZeros_one{z:List Value}{n:Nat}(hz:0<z.length)(h:Jo z=true):Jo (Xz z n)=true:=by
 unfold Xz
 split
 ·simp only[Jo,qO,List.all_nil,Bool.and_true,List.all_replicate]at h ⊢
  simp[h]
 ·simp only[Jo,qk,List.mem_map]at h ⊢
  rintro x ⟨i,_,rfl⟩
  have E:i%z.length<z.length:=Nat.mod_lt _ hz
  rw[qd E]
  exact h _ (qH _)
theorem aZeros_rel{n:Nat→Prop}{z:List Value}(k:Nat)(h:VRels n ι z z):VRels n ι (Xz z k) (Xz z k):=by
 refine⟨rfl,fun i x y hx hy=>?_⟩
 rw[hx]at hy
 cases hy
 unfold Xz at hx
 split at hx
 ·rename_i v
  have:x=v:=by
   have:=qj hx
   rw[List.mem_replicate]at this
   exact this.2
  subst this
  exact h.2 0 x x rfl rfl
 ·rw[qw,qy]at hx
  obtain⟨j,E,rfl⟩:=hx
  cases hg:z[j%z.length]? with
  |none=>exact .bool false
  |some u=>exact h.2 _ u u hg hg
theorem run_buildSlice'(w:World)(t e:TypeId)(len:Nat)(parts:Array (Nat×Value))(cells:Array Value)(ie:TypeInfo)(z:Value)
 (hu:P.underlying t=some (.slice e)) (hie:P.info? e=some ie) (hz:ie.zero=some z) (hsmall:¬len*ie.size>2^24)
 (h:Instr.fill (fun i=>some (i*ie.size,ie.size)) ((Array.range (len*ie.size)).map (z.cells[·%z.cells.size]!)) parts.toList=some cells):
 (Instr.buildSlice t len parts).run P w=.ok (.slice (some ⟨w.heap.size,0,none⟩) len len) (w.alloc (.cells cells e)):=by
 by_cases hpos:len*ie.size=0
 ·have E:(Array.range (len*ie.size)).map (z.cells[·%z.cells.size]!)=#[]:=by rw[hpos];simp
  rw[E]at h
  have I:∀f:Nat→Value,Array.map f (Array.range 0)=#[]:=fun f=>by simp
  simp[Instr.buildSlice,run_underlying hu,sizeOf,typeInfo,zeroValue,hie,hz,hsmall,hpos,h,I,newRow]
 ·exact run_buildSlice w t e len parts cells ie z hu hie hz hsmall hpos h
theorem aBuildSlice_run(h:Rel ι m w){t:TypeId}{len:Nat}{ps:List (Nat×Value)}{u:Value}{m':Mem}(hl:Uh P m t len ps=some (u,m')){qs:Array (Nat×Value)}(hp:PRel m.Has ι ps qs.toList):
 Sim ι m w ((Instr.buildSlice t len qs).run P w) u m':=by
 unfold Uh at hl
 split at hl<;>first|(cases hl;done)|skip
 rename_i e hu
 split at hl<;>first|(cases hl;done)|skip
 rename_i ie hie
 split at hl<;>first|(cases hl;done)|skip
 rename_i z hz
 split at hl<;>first|(cases hl;done)|skip
 rename_i hc
 obtain⟨hf,a8,I,U,Y⟩:=hc
 split at hl<;>first|(cases hl;done)|skip
 rename_i cs hfill
 cases hl
 have Z:0<z.cells.size:=by simpa using I
 have O:VRels m.Has ι (Xz z.cells.toList (len*ie.size)) (madeCells z.cells (len*ie.size)).toList:=by
  rw[←aZeros_eq Z]
  exact aZeros_rel _ (Qu (n:=m.Has) (ι:=ι) 3 z hf).cells
 obtain⟨E,h1,h2⟩:=aFill_run (place':=fun i=>some (i*ie.size,ie.size)) (fun i=>rfl) hp O hfill
 have hr:=run_buildSlice' (P:=P) w t e len qs E ie z hu hie hz (by omega) h1
 have a2:=h2.1
 have e2:E.toList.length=E.size:=by simp
 obtain⟨hR,hS⟩:=h.newCells (rest:=[]) (OneMore.alloc w (.cells E e)) ie.size h2.whole (by omega) (aFill_one (aZeros_one I U) Y hfill) (.inl rfl) (.row len (by rw[aFill_length hfill,aZeros_length]))
 exact⟨_,_,_,hr,VS _ ⟨w.heap.size,0,E.size,ie.size⟩ _ _ _ (qe _) (.inl rfl),hR,hS⟩
theorem aMakeSlice_run(h:Rel ι m w){t:TypeId}{l c u:Value}{m':Mem}(hl:ZX P m t l c=some (u,m')){l' c':Value}(hlr:VRel m.Has ι l l')(hcr:VRel m.Has ι c c'):
 Sim ι m w ((Instr.makeSlice t l' c').run P w) u m':=by
 unfold ZX at hl
 split at hl<;>first|(cases hl;done)|skip
 rename_i e hu
 split at hl<;>first|(cases hl;done)|skip
 rename_i ie hie
 split at hl<;>first|(cases hl;done)|skip
 rename_i z hz
 split at hl<;>first|(cases hl;done)|skip
 rename_i kl l kc c
 split at hl<;>first|(cases hl;done)|skip
 rename_i hc
 obtain⟨hf,O,U,h0,hlc,hb,Z⟩:=hc
 cases hl
 cases hlr;cases hcr
 have Y:0<z.cells.size:=by simpa using O
 have hr:=run_make (P:=P) w t e ie z hu hie hz kl kc l c h0 hlc hb (by omega)
 have I:VRels m.Has ι (Xz z.cells.toList (c.toNat*ie.size)) (madeCells z.cells (c.toNat*ie.size)).toList:=by
  rw[←aZeros_eq Y]
  exact aZeros_rel _ (Qu (n:=m.Has) (ι:=ι) 3 z hf).cells
 have e2:(madeCells z.cells (c.toNat*ie.size)).toList.length=(madeCells z.cells (c.toNat*ie.size)).size:=by simp
 have E:=I.1
 obtain⟨hR,hS⟩:=h.newCells (rest:=[]) (OneMore.alloc w (.cells (madeCells z.cells (c.toNat*ie.size)) e)) ie.size I.whole (by omega) (aZeros_one O U) (.inl rfl) (.row c.toNat (by rw[E];simp[madeCells]))
 exact⟨_,_,_,hr,VS _ ⟨w.heap.size,0,_,ie.size⟩ _ _ _ (by omega) (.inl rfl),hR,hS⟩
theorem byteCells'_rel(s:ByteArray)(n:Nat→Prop):VRels n ι (Qm s) (Qm s):=by
 refine⟨rfl,fun i x y hx hy=>?_⟩
 rw[hx]at hy
 cases hy
 unfold Qm at hx
 rw[qw,qy]at hx
 obtain⟨b,_,rfl⟩:=hx
 exact .int _ _
theorem byteCells'_one(s:ByteArray):Jo (Qm s)=true:=by
 simp only[Jo,Qm,List.all_map,qk]
 intro b _
 rfl
theorem byteCells'_length(s:ByteArray):(Qm s).length=s.size:=by simp[Qm]
theorem aToBytes_run(h:Rel ι m w){src dst:TypeId}{s:ByteArray}{u:Value}{m':Mem}(hl:aToBytes P m src dst s=some (u,m')):Sim ι m w ((convert src dst (.string s)).run P w) u m':=by
 unfold aToBytes at hl
 split at hl<;>first|(cases hl;done)|skip
 rename_i hs
 split at hl<;>first|(cases hl;done)|skip
 rename_i e hd
 split at hl<;>first|(cases hl;done)|skip
 rename_i he
 split at hl<;>first|(cases hl;done)|skip
 rename_i hbs
 rw[Vk]at hbs
 cases hl
 have Y:=run_bytes_of_string (P:=P) w src dst e s hs hd he
 have E:=grownCap_ge w s.size 0 e
 have O:=grownCap_le_maxLen w s.size 0 e (by simp only[maxLen];omega)
 generalize grownCap w s.size 0 e=cap at*
 have U:(bytesRow s cap).size=cap:=by
  unfold bytesRow
  simp
  omega
 have I:(bytesRow s cap).toList.take (Qm s).length=Qm s:=by
  unfold bytesRow Qm
  rw[qM,qf,List.take_left']
  rfl
 obtain⟨hR,Z⟩:=h.newCells (cs:=Qm s) (rest:=[]) (OneMore.drewAlloc w (.cells (bytesRow s cap) e ((bytesRow s cap).size,(bytesRow s cap).size+1))) 1 (by rw[I];exact byteCells'_rel s _) (by rw[byteCells'_length,U];exact E) (byteCells'_one s) (.inr (qe _)) .one
 rw[Vk]
 exact⟨_,_,_,Y,VS _ ⟨w.heap.size,0,_,1⟩ _ _ _ (qe _) (.inr ⟨E,by simp only;omega,O⟩),hR,Z⟩
theorem cellBytes_spec:∀{cs:List Value}{l:List UInt8},ZT cs=some l→∃ns:List Int,cs=ns.map (Value.int .u8)∧l=ns.map fun n=>UInt8.ofNat n.toNat
 | [],l,h=>by cases h;exact⟨[],rfl,rfl⟩
 |v::r,l,h=>by
  unfold ZT at h
  split at h<;>first|(cases h;done)|skip
  ·rename_i he;cases he
  ·rename_i n r' he
   cases he
   split at h<;>first|(cases h;done)|skip
   rename_i l' hr
   cases h
   obtain⟨ns,h1,h2⟩:=cellBytes_spec hr
   exact⟨n::ns,by rw[h1];rfl,by rw[h2];rfl⟩
theorem rel_ints{n:Nat→Prop}{k:IntKind}{ns:List Int}{us:List Value}(h:VRels n ι (ns.map (Value.int k)) us):us=ns.map (Value.int k):=by
 apply List.ext_getElem?
 intro i
 cases hx:(ns.map (Value.int k))[i]? with
 |none=>
  have:=h.1
  rw[List.getElem?_eq_none_iff]at hx ⊢
  omega
 |some x=>
  obtain⟨y,I,E⟩:=h.get hx
  rw[I]
  rw[qw,qy]at hx
  obtain⟨z,_,rfl⟩:=hx
  cases E
  rfl
theorem foldl_bytes:∀(ns:List Int)(a:ByteArray),(ns.foldl (fun r n=>r.push (UInt8.ofNat n.toNat)) a)=⟨⟨a.data.toList++ns.map fun n=>UInt8.ofNat n.toNat⟩⟩
 | [],a=>by simp
 |n::ns,a=>by
  rw[qI,foldl_bytes ns]
  simp[ByteArray.push]
theorem Rel.stretch(h:Rel ι m w){b:Nat}{ro:Bool}{s:Nat}{cs:List Value}(hb:m.get b=some (.cells ro s cs))(o k:Nat)(hle:o+k≤cs.length):∃us:List Value,VRels m.Has ι ((cs.drop o).take k) us∧us.length=k∧
 (∀j u,us[j]?=some u→w.cell? ⟨(ι b).blk,(ι b).base+o+j,none⟩=some u)∧(∀u∈us,u.oneCell'=true)∧Jo ((cs.drop o).take k)=true:=by
 obtain⟨C,e,fz,hC,a7,a8,O,hv,aa⟩:=h.at' b ro s cs hb
 have U:=((VRels.toL O fun i v hi=>(hv i v hi).2).drop o).take k
 have I:Jo ((cs.drop o).take k)=true:=by
  simp only[Jo,qk]
  intro x hx
  have Z:=List.mem_of_mem_drop (List.mem_of_mem_take hx)
  obtain⟨j,E,rfl⟩:=qx Z
  exact(hv j _ (qd E)).1
 refine⟨_,U,by rw[←U.1];simp;omega,fun j u E=>?_,fun u hu=>?_,I⟩
 ·rw[Qi hC]
  rw[qi]at E
  split at E
  ·rw[qt,qi]at E
   split at E
   ·rw[qt,qc]at E
    rw[←E,qG]
   ·cases E
  ·cases E
 ·obtain⟨j,E,rfl⟩:=qx hu
  have Y:j<((cs.drop o).take k).length:=by rw[U.1];exact E
  have:=U.2 j _ _ (qd Y) (qd E)
  rw[this.one]
  exact XG I _ (qH _)
theorem aToString_run(h:Rel ι m w){src dst:TypeId}{x v:Value}(hl:UY P m src dst x=some v){x':Value}(hx:VRel m.Has ι x x'):∃v',(convert src dst x').run P w=.ok v' w∧VRel m.Has ι v v':=by
 unfold UY at hl
 split at hl<;>first|(cases hl;done)|skip
 rename_i e hs
 split at hl<;>first|(cases hl;done)|skip
 rename_i hd
 split at hl<;>first|(cases hl;done)|skip
 rename_i he
 split at hl<;>first|(cases hl;done)|skip
 ·cases hx
  have hl:=Option.some.inj hl
  subst hl
  exact⟨.string .empty,by simp[convert,run_underlying hs,run_underlying hd,run_underlying he,Conv.bytesToString],.string _⟩
 ·rename_i b o n c
  split at hl<;>first|(cases hl;done)|skip
  rename_i ro s cs hb
  split at hl<;>first|(cases hl;done)|skip
  rename_i hle
  split at hl<;>first|(cases hl;done)|skip
  rename_i l hcb
  have hl:=Option.some.inj hl
  subst hl
  obtain⟨U,h1,h2⟩:=cellBytes_spec hcb
  obtain⟨us,hr,I,E,_,_⟩:=h.stretch hb o n hle
  rw[h1]at hr
  have Z:=rel_ints hr
  subst Z
  refine⟨.string ⟨⟨l⟩⟩,?_,.string _⟩
  have O:∀(a:Addr)(cap':Nat),(loadCells a n).run P w=.ok (U.map (Value.int .u8)).toArray w→(convert src dst (.slice (some a) n cap')).run P w=.ok (.string ⟨⟨l⟩⟩) w:=by
   intro a cap' Y
   have:=run_bytesToString (P:=P) w a n cap' U Y
   rw[foldl_bytes]at this
   simp[convert,run_underlying hs,run_underlying hd,run_underlying he,this,h2]
  cases hx with
  |slice _ _ _ _ cap' hlt hl hc=>
   apply O
   have:=run_loadCells_list (P:=P) w ⟨(ι b).blk,(ι b).base+o,none⟩ (U.map (Value.int .u8)) fun j u hj=>by rw[Xs];exact E j u hj
   rw[I]at this
   exact this
  |empty _ _ o' hlt=>
   apply O
   have hn:U=[]:=by simpa using I
   subst hn
   rfl
theorem aSrc_run(h:Rel ι m w){tx:TypeId}{size n:Nat}{x:Value}{news:List Value}(hl:aSrc P m tx size x=some (n,news)){x':Value}(hx:VRel m.Has ι x x'):
 ∃us,Src P size tx x' n us w∧VRels m.Has ι news us∧Jo news=true:=by
 unfold aSrc at hl
 split at hl<;>first|(cases hl;done)|skip
 ·rename_i e hk
  split at hl<;>first|(cases hl;done)|skip
  ·cases hl
   cases hx
   exact⟨[],Src.ofNil w hk 0,.nil,rfl⟩
  ·rename_i b o k c
   split at hl<;>first|(cases hl;done)|skip
   rename_i ro s cs hb
   split at hl<;>first|(cases hl;done)|skip
   rename_i hle
   cases hl
   obtain⟨us,Y,U,I,O,E⟩:=h.stretch hb o (n*size) hle
   refine⟨us,?_,Y,E⟩
   cases hx with
   |slice _ _ _ _ cap' hlt hl hc=>exact Src.ofSlice w hk _ _ _ us U (fun j u hj=>by rw[Xs];exact I j u hj) O
   |empty _ _ o' hlt=>
    have:us=[]:=by simpa using U
    subst this
    exact Src.ofSlice w hk _ _ _ [] (by simp) (fun j u hj=>by simp at hj) (fun u hu=>by cases hu)
 ·rename_i hk
  split at hl<;>first|(cases hl;done)|skip
  rename_i s
  split at hl<;>first|(cases hl;done)|skip
  rename_i hs1
  cases hl
  cases hx
  subst hs1
  rw[Vk]
  refine⟨Qm s,?_,byteCells'_rel s _,byteCells'_one s⟩
  exact Src.ofString w hk s
end sim
section sim
variable {P : Program} {ι : Nat → Loc} {m : Mem} {w : World}
theorem oneAll_append{a b:List Value}(ha:Jo a=true)(hb:Jo b=true):Jo (a++b)=true:=by
 simp only[Jo,List.all_append,qm]at*
 exact⟨ha,hb⟩
theorem Rel.goesOn(h:Rel ι m w){b s:Nat}{cs:List Value}(hb:m.get b=some (.cells false s cs))(o k:Nat)(hok:o+k≤cs.length)(vs us:List Value)(hbd:(ι b).base+o+k+vs.length≤(ι b).size)
 (h1:Jo vs=true) (hr:VRels m.Has ι vs us) (q:Nat) (htg:k+vs.length=q*s):
 Rel (Qh ι m.size ⟨(ι b).blk,(ι b).base+o,(ι b).size,s⟩) ((m.set b none).push (.cells false s ((cs.drop o).take k++vs))) (w.setCells (ι b).blk ((ι b).base+o+k) us)∧
 Step ι m w (Qh ι m.size ⟨(ι b).blk,(ι b).base+o,(ι b).size,s⟩) ((m.set b none).push (.cells false s ((cs.drop o).take k++vs))) (w.setCells (ι b).blk ((ι b).base+o+k) us):=by
 obtain⟨C,e,fz,hC,Z,aw,ai,hv,ac⟩:=h.at' b false s cs hb
 have U:=Ur us w (ι b).blk ((ι b).base+o+k) C e fz hC
 obtain⟨ah,hs2,ab,aa⟩:=Uj us w (ι b).blk ((ι b).base+o+k)
 have an:us.length=vs.length:=hr.1.symm
 have a6:C.toList.length=C.size:=by simp
 have O:Rel ι (m.set b none) (w.setCells (ι b).blk ((ι b).base+o+k) us):=by
  have O:=h.kill b
  have am:=h.glob.own b (.of hb)
  refine⟨fun c ro' s' cs' hc=>?_,fun c x hc=>?_,O.inj,⟨O.glob.known.keep fun g hg=>Qc _ _ _ _ _ (by omega),O.glob.own⟩⟩
  rotate_left
  ·have Y:=O.oth c x hc
   obtain⟨I,E⟩:=Z4 hc
   rw[Qc _ _ _ _ _ (h.inj c b (by rw[I];simp) (.of hb) (Ne.symm E))]
   exact Y
  obtain⟨C',e',a2,Y,k2⟩:=O.at' c ro' s' cs' hc
  obtain⟨I,E⟩:=Z4 hc
  refine⟨C',e',a2,?_,k2⟩
  rw[Qc _ _ _ _ _ (h.inj c b (by rw[I];simp) (.of hb) (Ne.symm E))]
  exact Y
 have e0:(m.set b none).size=m.size:=by simp
 have hp:=O.push false ⟨(ι b).blk,(ι b).base+o,(ι b).size,s⟩ ((cs.drop o).take k++vs) (setA C ((ι b).base+o+k) us) e fz U (by rw[ZM];exact Z)
  (by rw[ZM,Z];simp;omega)
  (fun i v hi=>by
   rw[←qc,Vc,VJ _ _ _ _ (by simp only[a6];omega)]
   have up:∀{v v':Value},VRel m.Has ι v v'→VRel (m.set b none).Has ι v v':=fun hv=>hv.mono (fun _ hc=>Mem.has_set _ hc) fun _ _=>rfl
   simp only
   rw[qJ]at hi
   have af:((cs.drop o).take k).length=k:=by simp;omega
   rw[af]at hi
   split at hi
   ·rename_i hlt
    rw[if_neg (by omega),qc]
    rw[qi,if_pos hlt,qt]at hi
    rw[qG]
    obtain⟨Y,v',k2,k3⟩:=hv (o+i) v hi
    exact⟨Y,v',k2,up k3⟩
   ·rename_i hge
    have aq:=(qv.1 hi).1
    rw[if_pos (by omega),show(ι b).base+o+i-((ι b).base+o+k)=i-k by omega]
    obtain⟨y,ag,a8⟩:=hr.get hi
    exact⟨XG h1 v (qj hi),y,ag,up a8⟩)
  (fun i hi=>ac rfl i (by rwa [ZM]at hi))
  (fun c hc=>by
   cases hx:(m.set b none).get c with
   |none=>exact absurd hx hc
   |some x=>
    obtain⟨I,E⟩:=Z4 hx
    exact h.inj c b (by rw[I];simp) (.of hb) (Ne.symm E))
  (fun _=>h.glob.own b (.of hb))
  (.row q (by rw[qN,List.length_take,List.length_drop,Nat.min_eq_left (by omega)];exact htg))
 rw[e0]at hp
 refine⟨hp,hs2,ab,aa,by rw[ah];exact qe _,fun c hc=>Mem.has_push _ (Mem.has_set _ hc),fun c hc=>Jz _ (Mem.has_lt hc),?_,?_⟩
 ·intro g _ hg
  exact Qc _ _ _ _ _ fun e=>hg b (.of hb) e.symm
 ·intro c hc
  obtain⟨y,ho,hy⟩:=hc
  rcases Mem.get_push ho with⟨h1,h2⟩|⟨h1,_⟩
  ·rw[e0]at h1
   exact .inr ⟨c,own_of_set_none ⟨y,h2,hy⟩,by rw[Jz _ h1]⟩
  ·rw[e0]at h1
   subst h1
   rw[JU]
   exact .inr ⟨b,(.of hb),rfl⟩
theorem aAppend_run(h:Rel ι m w){t tx ty:TypeId}{s x u:Value}{m':Mem}(hl:JT P m t tx s x=some (u,m')){s' x':Value}(hs:VRel m.Has ι s s')(hx:VRel m.Has ι x x'):
 Sim ι m w ((Builtin.append_ #[t,tx] ty #[s',x']).run P w) u m':=by
 unfold JT at hl
 split at hl<;>first|(cases hl;done)|skip
 rename_i e ht
 split at hl<;>first|(cases hl;done)|skip
 rename_i i hi
 split at hl<;>first|(cases hl;done)|skip
 rename_i z hz
 split at hl<;>first|(cases hl;done)|skip
 rename_i hzl
 have ar:z.cells.size=i.size:=by simpa using hzl
 split at hl<;>first|(cases hl;done)|skip
 rename_i n news hsrc
 obtain⟨E,hS,hr,Y⟩:=aSrc_run h hsrc hx
 have ah:E.length=n*i.size:=hS.newsLen
 have ap:news.length=n*i.size:=by rw[hr.1,ah]
 split at hl<;>first|(cases hl;done)|skip
 ·
  cases hs
  split at hl
  ·rename_i hn0
   cases hl
   subst hn0
   refine Sim.pure h (v':=.slice none 0 0) ?_ .nilSlice
   have an:E=[]:=qq (by omega)
   subst an
   rcases hS.kind with⟨e',hk⟩|hk<;>simp[Builtin.append_,run_underlying ht,run_underlying hk,JP hi,hS.len,hS.cells]
  ·rename_i hn0
   split at hl<;>first|(cases hl;done)|skip
   rename_i hb
   cases hl
   have hg:=run_append_grow_src (P:=P) w t tx ty e i z ht hi hz none 0 0 [] (run_firstCells_none w.drew i.size 0 0 0) x' n E hS (by omega) (by omega) (growslice_fits (by omega) (by simpa using hb.1))
   rw[Nat.zero_add]at hg
   generalize hcap:grownCap w n 0 e=cap at hg
   have al:n≤cap:=by rw[←hcap];exact grownCap_ge w n 0 e
   generalize hC:(([]++E).toArray++Builtin.zeroCells z.cells (cap-n))=C at hg
   have ak:C.toList.take E.length=E:=by subst hC;simp
   have aB:C.size=E.length+(Builtin.zeroCells z.cells (cap-n)).size:=by subst hC;simp
   obtain⟨hR,I⟩:=h.newCells (cs:=news) (rest:=[]) (OneMore.drewAlloc w (.cells C e)) i.size (by rw[hr.1,ak];exact hr) (by rw[hr.1];omega) Y (.inl rfl) (.row n ap)
   have aC:(Builtin.zeroCells z.cells (cap-n)).size=(cap-n)*i.size:=by simp[Builtin.zeroCells,ar]
   refine⟨_,_,_,hg,VS _ ⟨w.heap.size,0,C.size,i.size⟩ _ _ _ (qe _) (.inr ⟨al,?_,by rw[←hcap];exact grownCap_le_maxLen w n 0 e (by simp only[maxLen];omega)⟩),hR,I⟩
   have e1:cap*i.size=n*i.size+(cap-n)*i.size:=by rw[←qB];congr 1;omega
   simp only
   omega
 ·rename_i b o len cap
  split at hl
  ·
   rename_i hn0
   cases hl
   subst hn0
   have an:E=[]:=qq (by omega)
   subst an
   have a8:∀(a:Addr)(cap':Nat),len≤cap'→(Builtin.append_ #[t,tx] ty #[.slice (some a) len cap',x']).run P w=.ok (.slice (some a) len cap') w:=by
    intro a cap' aF
    rcases hS.kind with⟨e',hk⟩|hk<;>simp[Builtin.append_,run_underlying ht,run_underlying hk,JP hi,hS.len,hS.cells,aF,storeCells]
   cases hs with
   |slice _ _ _ _ cap' hlt hll hc=>exact Sim.pure h (a8 _ cap' (by rcases hc with hc|hc<;>omega)) (.slice b o len cap cap' hlt hll hc)
   |empty _ _ o' hlt=>exact Sim.pure h (a8 _ 0 (qe _)) (.empty b o o' hlt)
  rename_i hn0
  split at hl<;>first|(cases hl;done)|skip
  rename_i st cs hb
  obtain⟨C,eC,fz,hC,aL,aD,ao,hv,av⟩:=h.at' b false st cs hb
  have aA:0<n:=Nat.pos_of_ne_zero hn0
  split at hl
  ·
   rename_i hroom
   split at hl<;>first|(cases hl;done)|skip
   rename_i Z
   cases hl
   cases hs with
   |slice _ _ _ _ cap' hlt hll hc=>
    have aJ:cap≤cap':=by rcases hc with hc|hc<;>omega
    obtain⟨hR,I⟩:=h.write hb (o+len*i.size) news E Z (XG Y) hr
    rw[←qG]at hR I
    have aa:=run_append_room_src (P:=P) w t tx ty e i ht hi (ι b).blk ((ι b).base+o) len cap' x' n E hS (by omega)
     (fun j hj=>by rw[Qi hC];simp;omega) (fun j hj=>Z5 hC (av rfl _ (by omega)))
    exact⟨_,_,_,aa,.slice b o (len+n) cap cap' (Mem.has_set _ hlt) hroom hc,hR,I⟩
   |empty _ _ o' hlt=>exfalso;omega
  ·rename_i hroom
   split at hl<;>first|(cases hl;done)|skip
   rename_i hcond
   obtain⟨Z,ax,aE,aG⟩:=hcond
   cases hl
   subst ax
   have ac:∀(a:Addr)(cap':Nat),cap'<len+n→(∀j u,(((C.toList.drop (ι b).base).take cs.length).drop o|>.take (len*i.size))[j]?=some u→w.cell? (a.add j)=some u)→
    Sim ι m w ((Builtin.append_ #[t,tx] ty #[.slice (some a) len cap',x']).run P w) (.slice (some ⟨m.size,0,none⟩) (len+n) (len+n)) ((m.set b none).push (.cells false i.size ((cs.drop o).take (len*i.size)++news))):=by
    intro a cap' a7 ai
    have aw:=((VRels.toL ao fun i v hi=>(hv i v hi).2).drop o).take (len*i.size)
    generalize hO:(((C.toList.drop (ι b).base).take cs.length).drop o|>.take (len*i.size))=olds at*
    have O:olds.length=len*i.size:=by rw[←aw.1];simp;omega
    have hg:=run_append_grow_src (P:=P) w t tx ty e i z ht hi hz (some a) len cap' olds (run_firstCells_some w.drew i.size len a len cap' olds O (by simpa using ai)) x' n E hS a7 (by omega) (growslice_fits a7 aE)
    generalize hcap:grownCap w (len+n) cap' e=k at hg
    have al:len+n≤k:=by rw[←hcap];exact grownCap_ge w _ _ e
    generalize hCC:((olds++E).toArray++Builtin.zeroCells z.cells (k-(len+n)))=CC at hg
    have U:VRels m.Has ι ((cs.drop o).take (len*i.size)++news) (olds++E):=aw.append hr
    have ak:CC.toList.take (olds++E).length=olds++E:=by subst hCC;simp[←List.append_assoc]
    have aB:CC.size=(olds++E).length+(Builtin.zeroCells z.cells (k-(len+n))).size:=by subst hCC;simp
    have aC:(Builtin.zeroCells z.cells (k-(len+n))).size=(k-(len+n))*i.size:=by simp[Builtin.zeroCells,ar]
    have am:Jo ((cs.drop o).take (len*i.size)++news)=true:=by
     obtain⟨_,_,_,_,_,h5⟩:=h.stretch hb o (len*i.size) Z
     exact oneAll_append h5 Y
    have e0:(m.set b none).size=m.size:=by simp
    obtain⟨hR,I⟩:=(h.kill b).newCells (cs:=(cs.drop o).take (len*i.size)++news) (rest:=[]) (OneMore.drewAlloc w (.cells CC e)) i.size (by rw[U.1,ak];exact U.mono (fun _ hc=>Mem.has_set _ hc) fun _ _=>rfl) (by rw[U.1];omega) am (.inl rfl) (.row (len+n) (by rw[U.1,qN,O,ah,qB]))
    rw[e0]at hR I
    have a6:=VS (m:=m.set b none) (ι:=ι) (.cells false i.size ((cs.drop o).take (len*i.size)++news)) ⟨w.heap.size,0,CC.size,i.size⟩ (len+n) (len+n) k (qe _) (.inr ⟨al,by
     have e1:k*i.size=(len+n)*i.size+(k-(len+n))*i.size:=by rw[←qB];congr 1;omega
     have e2:(olds++E).length=(len+n)*i.size:=by rw[qN,O,ah,qB]
     simp only
     omega,by rw[←hcap];exact grownCap_le_maxLen w _ _ e (by simp only[maxLen];omega)⟩)
    rw[e0]at a6
    exact⟨_,_,_,hg,a6,hR,(Step.kill b).trans I⟩
   have ad:∀j u,(((C.toList.drop (ι b).base).take cs.length).drop o|>.take (len*i.size))[j]?=some u→w.cell? ((⟨(ι b).blk,(ι b).base+o,none⟩:Addr).add j)=some u:=by
    intro j u hj
    rw[Xs,Qi hC]
    rw[qi]at hj
    split at hj
    ·rw[qt,qi]at hj
     split at hj
     ·rw[qt,qc]at hj
      rw[←hj,qG]
     ·cases hj
    ·cases hj
   cases hs with
   |slice _ _ _ _ cap' hlt hll hc=>
    by_cases hgr:cap'<len+n
    ·exact ac _ cap' hgr ad
    ·
     have au:cap≤cap'∧(ι b).base+o+cap'*(ι b).stride≤(ι b).size∧cap'≤maxLen:=by
      rcases hc with hc|hc
      ·exfalso;omega
      ·exact hc
     rw[aD.eq]at au
     have e1:(len+n)*i.size≤cap'*i.size:=Nat.mul_le_mul_right _ (by omega)
     rw[qB]at e1
     obtain⟨hR,I⟩:=h.goesOn hb o (len*i.size) Z news E (by omega) Y hr (len+n) (by rw[ap,qB])
     have aa:=run_append_room_src (P:=P) w t tx ty e i ht hi (ι b).blk ((ι b).base+o) len cap' x' n E hS (by omega)
      (fun j hj=>by rw[Qi hC];simp;omega) (fun j hj=>Z5 hC (av rfl _ (by omega)))
     have a6:=VS (m:=m.set b none) (ι:=ι) (.cells false i.size ((cs.drop o).take (len*i.size)++news)) ⟨(ι b).blk,(ι b).base+o,(ι b).size,i.size⟩ (len+n) (len+n) cap' (qe _) (.inr ⟨by omega,au.2⟩)
     have e0:(m.set b none).size=m.size:=by simp
     rw[e0]at a6
     exact⟨_,_,_,aa,a6,hR,I⟩
   |empty _ _ o' hlt=>
    refine ac _ 0 (by omega) ?_
    intro j u hj
    simp at hj
def aExtend(P:Program)(m:Mem)(t tx:TypeId)(s x:Value):Option (Value×Mem):=
 match P.underlying t with
 |some (.slice e)=>match P.underlying tx with
  |some (.int _)=>match P.info? e with
   |some i=>match i.zero with
    |some z=>match s,x with
     |.slice none 0 0,.int .i64 (.ofNat n)=>if 0<n∧n*i.bytes≤140737488355328∧n≤140737488355328∧z.cells.toList.length=i.size∧0<z.cells.toList.length∧flat 3 z=true∧Jo z.cells.toList=true then
      some (.slice (some ⟨m.size,0,none⟩) n n,m.push (.cells false i.size (Xz z.cells.toList (n*i.size))))else none
     |_,_=>none
    |none=>none
   |none=>none
  |_=>none
 |_=>none
theorem aExtend_run(h:Rel ι m w){t tx ty:TypeId}{s x u:Value}{m':Mem}(hl:aExtend P m t tx s x=some (u,m')){s' x':Value}(hs:VRel m.Has ι s s')(hx:VRel m.Has ι x x'):
 Sim ι m w ((Builtin.append_ #[t,tx] ty #[s',x']).run P w) u m':=by
 unfold aExtend at hl
 split at hl<;>first|(cases hl;done)|skip
 rename_i e ht
 split at hl<;>first|(cases hl;done)|skip
 rename_i kx htx
 split at hl<;>first|(cases hl;done)|skip
 rename_i i hi
 split at hl<;>first|(cases hl;done)|skip
 rename_i z hz
 split at hl<;>first|(cases hl;done)|skip
 rename_i n
 split at hl<;>first|(cases hl;done)|skip
 rename_i hc
 obtain⟨a8,hb,hn,I,O,hf,Z⟩:=hc
 cases hl
 cases hs;cases hx
 have a6:z.cells.size=i.size:=by simpa using I
 have ad:0<i.size:=by rw[←I];exact O
 have e0:∀k,Builtin.zeroCells z.cells k=madeCells z.cells (k*i.size):=fun k=>by unfold Builtin.zeroCells madeCells;rw[a6]
 have hw:IntKind.i64.wrap (Int.ofNat n)=Int.ofNat n:=by
  have Y:(Int.ofNat n)%(2^64:Int)=Int.ofNat n:=by
   have:(2:Int)^64=18446744073709551616:=by decide
   rw[this];simp only[Int.ofNat_eq_natCast];omega
  have e:IntKind.i64.bits=64:=rfl
  have e2:IntKind.i64.signed=true:=rfl
  unfold IntKind.wrap
  simp only[e,e2,Bool.true_and,decide_eq_true_eq]
  rw[Y,if_neg]
  have:(2:Int)^(64-1)=9223372036854775808:=by decide
  rw[this];simp only[Int.ofNat_eq_natCast];omega
 have hg:(Builtin.append_ #[t,tx] ty #[.slice none 0 0,.int .i64 (Int.ofNat n)]).run P w=
  .ok (.slice (some ⟨w.heap.size,0,none⟩) n (grownCap w n 0 e)) (w.drew.alloc (.cells (Builtin.zeroCells z.cells n++Builtin.zeroCells z.cells (grownCap w n 0 e-n)) e)):=by
  have hw:IntKind.i64.wrap (n:Int)=(n:Int):=hw
  have Y:¬((n:Int)<0):=by omega
  have h2:¬(281474976710656<(n:Int)*(i.bytes:Int)):=by
   have:((n:Int)*(i.bytes:Int))=((n*i.bytes:Nat):Int):=by simp
   rw[this];omega
  have h3:¬(n≤0):=by omega
  have h4:¬(9223372036854775807<(n:Int)):=by omega
  have h5:Builtin.nextslicecap n 0=n:=by unfold Builtin.nextslicecap;rw[if_pos (by omega)]
  have h6:¬(281474976710656<n*i.bytes):=by omega
  have h7:¬(n*i.size=0):=Nat.ne_of_gt (Nat.mul_pos a8 ad)
  have h8:¬(n=0∨i.size=0):=by omega
  simp[Builtin.append_,run_underlying ht,run_underlying htx,sizeOf,typeInfo,zeroValue,hi,hz,asInt,asIntOf,hw,Y,h2,h3,h4,h5,h6,h7,h8,Question.forced,newRow,grownCap,Builtin.firstCells]
  omega
 generalize hcap:grownCap w n 0 e=cap at hg
 have ac:n≤cap:=by rw[←hcap];exact grownCap_ge w n 0 e
 generalize hC:(Builtin.zeroCells z.cells n++Builtin.zeroCells z.cells (cap-n))=C at hg
 have U:(madeCells z.cells (n*i.size)).toList.length=n*i.size:=by simp[madeCells]
 have ab:C.toList.take (n*i.size)=(madeCells z.cells (n*i.size)).toList:=by
  subst hC
  rw[qM,e0,List.take_append_of_le_length (by rw[U];exact qe _),List.take_of_length_le (by rw[U];exact qe _)]
 have af:C.size=n*i.size+(cap-n)*i.size:=by subst hC;rw[Array.size_append,e0,e0];simp[madeCells]
 have ae:VRels m.Has ι (Xz z.cells.toList (n*i.size)) (madeCells z.cells (n*i.size)).toList:=by
  rw[←aZeros_eq (by omega)]
  exact aZeros_rel _ (Qu (n:=m.Has) (ι:=ι) 3 z hf).cells
 have E:=aZeros_length z.cells.toList (n*i.size)
 obtain⟨hR,aa⟩:=h.newCells (cs:=Xz z.cells.toList (n*i.size)) (rest:=[]) (OneMore.drewAlloc w (.cells C e)) i.size (by rw[E,ab];exact ae) (by rw[E];omega) (aZeros_one O Z) (.inl rfl) (.row n E)
 refine⟨_,_,_,hg,VS _ ⟨w.heap.size,0,C.size,i.size⟩ _ _ _ (qe _) (.inr ⟨ac,?_,by rw[←hcap];exact grownCap_le_maxLen w n 0 e (by simp only[maxLen];omega)⟩),hR,aa⟩
 have e1:cap*i.size=n*i.size+(cap-n)*i.size:=by rw[←qB];congr 1;omega
 simp only
 omega
def aCopy(P:Program)(m:Mem)(t tx:TypeId)(d x:Value):Option (Value×Mem):=
 match P.underlying t with
 |some (.slice e)=>match P.underlying tx with
  |some (.slice _)=>match P.info? e with
   |some i=>match d,x with
    |.slice (some ⟨b,o,none⟩) dl _,.slice (some ⟨b2,o2,none⟩) n _=>match m.get b2 with
     |some (.cells _ _ cs2)=>match m.get b with
      |some (.cells false st cs)=>if o2+min n dl*i.size≤cs2.length∧o+min n dl*i.size≤cs.length then
       some (.int .i64 (min n dl:Nat),m.set b (some (.cells false st (setL cs o ((cs2.drop o2).take (min n dl*i.size))))))
       else none
      |_=>none
     |_=>none
    |_,_=>none
   |none=>none
  |_=>none
 |_=>none
theorem aCopy_run(h:Rel ι m w){t tx ty:TypeId}{d x u:Value}{m':Mem}(hl:aCopy P m t tx d x=some (u,m')){d' x':Value}(hd:VRel m.Has ι d d')(hx:VRel m.Has ι x x'):
 Sim ι m w ((Builtin.copy_ #[t,tx] ty #[d',x']).run P w) u m':=by
 unfold aCopy at hl
 split at hl<;>first|(cases hl;done)|skip
 rename_i e ht
 split at hl<;>first|(cases hl;done)|skip
 rename_i e2 htx
 split at hl<;>first|(cases hl;done)|skip
 rename_i i hi
 split at hl<;>first|(cases hl;done)|skip
 rename_i b o dl dc b2 o2 n nc
 split at hl<;>first|(cases hl;done)|skip
 rename_i ro2 st2 cs2 hb2
 split at hl<;>first|(cases hl;done)|skip
 rename_i st cs hb
 split at hl<;>first|(cases hl;done)|skip
 rename_i hc
 obtain⟨ae,ad⟩:=hc
 cases hl
 generalize hk:min n dl=k at*
 obtain⟨us,hr,I,O,Y,U⟩:=h.stretch hb2 o2 (k*i.size) ae
 have ag:((cs2.drop o2).take (k*i.size)).length=k*i.size:=by rw[hr.1,I]
 obtain⟨hR,hS⟩:=h.write hb o _ us (by rw[ag];exact ad) (XG U) hr
 obtain⟨C,et,fz,hC,am,al,ah,ak,ac⟩:=h.at' b false st cs hb
 have a6:=run_loadCells_list (P:=P) w ⟨(ι b2).blk,(ι b2).base+o2,none⟩ us (fun j v hj=>by rw[Xs];exact O j v hj)
 rw[I]at a6
 have E:=run_storeCells_cells (P:=P) (ι b).blk ((ι b).base+o) us 0 w (fun j hj=>by
  rw[Qi hC];simp;omega) (fun j hj=>Z5 hC (ac rfl _ (by omega))) Y
 simp only[Nat.add_zero]at E
 have a8:∀a c,(Builtin.lenOf (.slice a n c)).run P w=.ok n w:=fun _ _=>rfl
 have run:∀dc' nc',(Builtin.copy_ #[t,tx] ty #[.slice (some ⟨(ι b).blk,(ι b).base+o,none⟩) dl dc',.slice (some ⟨(ι b2).blk,(ι b2).base+o2,none⟩) n nc']).run P w=.ok (.int .i64 (k:Nat)) (w.setCells (ι b).blk ((ι b).base+o) us):=fun dc' nc'=>by
  have Z:Nat.min n dl=k:=hk
  simp[Builtin.copy_,run_underlying ht,Builtin.lenOf,Builtin.firstCells,JP hi,Z,a6,E,goInt]
 have zero:dl=0∨n=0→us=[]∧k=0:=fun h0=>by
  have:k=0:=by rcases h0 with h0|h0<;>omega
  subst this
  exact⟨qq (by simpa using I),rfl⟩
 cases hd with
 |slice _ _ _ _ cap' hlt hl hcc=>cases hx with
  |slice _ _ _ _ cap2 hlt2 hl2 hcc2=>exact⟨_,_,ι,run _ _,.int _ _,hR,hS⟩
  |empty _ _ p hlt2=>
   obtain⟨h1,h2⟩:=zero (.inr rfl)
   subst h1;subst h2
   refine⟨_,_,ι,?_,.int _ _,hR,hS⟩
   simp[Builtin.copy_,run_underlying ht,Builtin.lenOf,Builtin.firstCells,JP hi,goInt,loadCells,loadCellsFrom,storeCells,World.setCells]
 |empty _ _ p hlt=>
  obtain⟨h1,h2⟩:=zero (.inl rfl)
  subst h1;subst h2
  refine⟨_,_,ι,?_,.int _ _,hR,hS⟩
  cases hx with
  |slice _ _ _ _ cap2 hlt2 hl2 hcc2=>simp[Builtin.copy_,run_underlying ht,Builtin.lenOf,Builtin.firstCells,JP hi,goInt,loadCells,loadCellsFrom,storeCells,World.setCells]
  |empty _ _ p2 hlt2=>simp[Builtin.copy_,run_underlying ht,Builtin.lenOf,Builtin.firstCells,JP hi,goInt,loadCells,loadCellsFrom,storeCells,World.setCells]
end sim
section
variable {ι : Nat → Loc} {m : Mem} {w : World}
theorem Rel.newOther(h:Rel ι m w){w':World}{o:Obj}(k:OneMore w w' o)(x:Blk)(hx:∀ro s cs,x≠ .cells ro s cs)(ht:x.Told ι m.Has (some o) 0):
 Rel (Qh ι m.size ⟨w.heap.size,0,0,1⟩) (m.push x) w'∧Step ι m w (Qh ι m.size ⟨w.heap.size,0,0,1⟩) (m.push x) w':=by
 have h':=h.more k
 have E:∀b,m.Has b→Qh ι m.size ⟨w.heap.size,0,0,1⟩ b=ι b:=fun b hb=>Jz _ (Mem.has_lt hb)
 refine⟨⟨fun b ro s cs hb=>?_,fun b y hb=>?_,fun b b' hb hb' hne=>?_,⟨h'.glob.known,fun b ⟨y,hb,hy⟩=>?_⟩⟩,⟨k.os,k.tape,k.output,by rw[k.heap];simp,fun _ hb=>Mem.has_push _ hb,E,fun g Z _=>by rw[k.heap,qu,if_neg (by omega)],fun b ⟨y,hb,hy⟩=>?_⟩⟩
 ·rcases Mem.get_push hb with⟨O,Z⟩|⟨_,e⟩
  ·rw[Jz _ O]
   obtain⟨C,e,fz,I,h2,U,Y,h5,h6⟩:=h'.at' b ro s cs Z
   exact⟨C,e,fz,I,h2,U,Y,fun i v hi=>by
    obtain⟨h7,v',h8,h9⟩:=h5 i v hi
    exact⟨h7,v',h8,h9.mono (fun _ hb=>Mem.has_push _ hb) E⟩,h6⟩
  ·exact absurd e (hx ro s cs)
 ·rcases Mem.get_push hb with⟨O,Z⟩|⟨rfl,e⟩
  ·rw[Jz _ O]
   exact(h'.oth b y Z).mono (fun _ hb=>Mem.has_push _ hb) E
  ·subst e
   rw[JU,k.heap]
   have e1:(w.heap.push o)[w.heap.size]?=some o:=by simp
   rw[e1]
   exact ht.mono (fun _ hb=>Mem.has_push _ hb) E
 ·obtain⟨y,a7,a6⟩:=hb'
  obtain⟨z,hz⟩:=Option.ne_none_iff_exists'.1 hb
  rcases Mem.get_push hz with⟨I,h2⟩|⟨rfl,_⟩<;>rcases Mem.get_push a7 with⟨U,Y⟩|⟨rfl,_⟩
  ·rw[Jz _ I,Jz _ U]
   exact h.inj b b' (by rw[h2];simp) ⟨y,Y,a6⟩ hne
  ·rw[Jz _ I,JU]
   have:=h.lt (b:=b) (by rw[h2];simp)
   simp only;omega
  ·rw[Jz _ U,JU]
   have:=h.lt (b:=b') (by rw[Y];simp)
   simp only;omega
  ·exact absurd rfl hne
 ·rcases Mem.get_push hb with⟨I,h2⟩|⟨rfl,_⟩
  ·rw[Jz _ I];exact h.glob.own b ⟨y,h2,hy⟩
  ·rw[JU];exact h.glob.known.size
 ·rcases Mem.get_push hb with⟨I,h2⟩|⟨rfl,_⟩
  ·exact .inr ⟨b,⟨y,h2,hy⟩,by rw[Jz _ I]⟩
  ·rw[JU];exact .inl (qe _)
theorem Rel.turnOther(h:Rel ι m w){w':World}{b:Nat}{x₀ x:Blk}(hb:m.get b=some x₀)(h0:x₀.own=true)(hbase:(ι b).base=0)(hx:∀ro s cs,x≠ .cells ro s cs){o:Obj}(ht:x.Told ι m.Has (some o) 0)
 (k1:w'.heap[(ι b).blk]?=some o) (k2:∀g,g≠(ι b).blk→w'.heap[g]?=w.heap[g]?) (k3:w'.heap.size=w.heap.size) (k4:w'.os=w.os) (k5:w'.tape=w.tape) (k6:w'.output=w.output):
 Rel ι (m.set b (some x)) w'∧Step ι m w ι (m.set b (some x)) w':=by
 have E:m.Own b:=⟨_,hb,h0⟩
 have O:=Mem.get_set_same hb (some x)
 have U:∀c,c≠b→(m.set b (some x)).get c=m.get c:=fun c hc=>Mem.get_set_ne (Ne.symm hc) _
 have Y:∀c,c≠b→m.get c≠none→w'.heap[(ι c).blk]?=w.heap[(ι c).blk]?:=fun c hc hl=>k2 _ (h.inj c b hl E hc)
 have I:∀c,(m.set b (some x)).Own c→m.Own c:=fun c ⟨y,hc,hy⟩=>by
  by_cases e:c=b
  ·subst e;exact E
  ·rw[U c e]at hc;exact⟨y,hc,hy⟩
 refine⟨⟨fun c ro s cs hc=>?_,fun c y hc=>?_,fun c c' hc hc' hne'=>?_,⟨?_,fun c hc=>h.glob.own c (I c hc)⟩⟩,⟨k4,k5,k6,by rw[k3];exact qe _,fun _ hc=>Mem.has_set _ hc,fun _ _=>rfl,fun g _ hg=>k2 g fun e=>hg b E e.symm,fun c hc=>.inr ⟨c,I c hc,rfl⟩⟩⟩
 ·by_cases e:c=b
  ·subst e;rw[O]at hc;cases hc;exact absurd rfl (hx ro s cs)
  ·rw[U c e]at hc
   rw[Y c e (by rw[hc];simp)]
   obtain⟨C,e,fz,h1,h2,Z,h4,h5,h6⟩:=h.at' c ro s cs hc
   exact⟨C,e,fz,h1,h2,Z,h4,fun i v hi=>by
    obtain⟨h7,v',h8,h9⟩:=h5 i v hi
    exact⟨h7,v',h8,h9.mono (fun _ hb=>Mem.has_set _ hb) fun _ _=>rfl⟩,h6⟩
 ·by_cases e:c=b
  ·subst e;rw[O]at hc;cases hc
   rw[k1,hbase]
   exact ht.mono (fun _ hb=>Mem.has_set _ hb) fun _ _=>rfl
  ·rw[U c e]at hc
   rw[Y c e (by rw[hc];simp)]
   exact(h.oth c y hc).mono (fun _ hb=>Mem.has_set _ hb) fun _ _=>rfl
 ·refine h.inj c c' ?_ (I c' hc') hne'
  by_cases e:c=b
  ·subst e;rw[hb];simp
  ·rw[←U c e];exact hc
 ·have:=h.glob.own b E
  exact h.glob.known.keep fun g hg=>k2 g (by omega)
end
end Go.Proofs.YthohbneadomgdaaGreatDoor.Abs
namespace Go.Proofs.YthohbneadomgdaaGreatDoor.Abs
open Go Go.MapKept
def aKey(d:TypeDesc)(k:Value):Bool:=match d,k with
 |.int k,.int k' _=>decide (k'=k)
 |.string,.string _=>true
 |_,_=>false
def aKV(get:Nat→Option Blk)(x:Value):Option (List MapEntry):=match x with
 |.map none=>some []
 |.map (some b)=>match get b with|some (.kv _ es _)=>some es|_=>none
 |_=>none
def intOf(kd:IntKind)(v:Value):Bool:=match v with|.int k _=>decide (k=kd)|_=>false
def arrKey(P:Program)(n:Nat)(e:TypeId)(k:Value):Bool:=match k with
 |.agg cs=>match P.underlying e with
  |some (.int kd)=>match P.info? e with
   |some i=>decide (i.size=1)&&decide (cs.toList.length=n)&&cs.toList.all (intOf kd)
   |none=>false
  |_=>false
 |_=>false
def eqKs:List Value→List Value→Bool
 | [],[]=>true
 |.int j a::r,.int k b::s=>if j=k∧a=b then eqKs r s else false
 |_,_=>false
def eqK(x y:Value):Bool:=match x,y with|.agg a,.agg b=>eqKs a.toList b.toList|_,_=>false
def aFindA(P:Program)(kt:TypeId)(k:Value):List MapEntry→Nat→Option (Option (Nat×Value))
 | [],_=>some none
 |e::es,i=>match aEq P 2 kt k e.key with
  |some true=>if eqK k e.key=true then some (some (i,e.val))else none
  |some false=>aFindA P kt k es (i+1)
  |none=>none
def aFind(P:Program)(kt:TypeId)(k:Value)(es:List MapEntry):Option (Option (Nat×Value)):=match P.underlying kt with
 |some d=>if aKey d k=true then Instr.findNow d k es 0 else match d with
  |.array n e=>if arrKey P n e k=true then aFindA P kt k es 0 else none
  |_=>none
 |none=>none
def Z6(P:Program)(get:Nat→Option Blk)(t:TypeId)(x k:Value)(ok:Bool):Option Value:=
 match P.underlying t with
 |some (.map kt et)=>match P.info? et with
  |some i=>match i.zero with
   |some z=>if flat 3 z=true then match aKV get x with
    |some es=>match aFind P kt k es with
     |some (some (_,v))=>some (if ok=true then .tuple #[v,.bool true]else v)
     |some none=>some (if ok=true then .tuple #[z,.bool false]else z)
     |none=>none
    |none=>none
    else none
   |none=>none
  |none=>none
 |_=>none
def ZW(P:Program)(m:Mem)(t:TypeId)(x k v:Value):Option Mem:=
 match P.underlying t with
 |some (.map kt _)=>match x with
  |.map (some b)=>match m.get b with
   |some (.kv false es c)=>if flat 3 v=true then match aFind P kt k es with
    |some (some (i,_))=>some (m.set b (some (.kv false (es.modify i fun e=>{ e with val:=v }) c)))
    |some none=>some (m.set b (some (.kv false (es++[⟨k,v,c⟩]) (c+1))))
    |none=>none
    else none
   |_=>none
  |_=>none
 |_=>none
def aClear(P:Program)(m:Mem)(t:TypeId)(x:Value):Option Mem:=
 match P.underlying t with
 |some (.map _ _)=>match x with
  |.map none=>some m
  |.map (some b)=>match m.get b with
   |some (.kv false _ c)=>some (m.set b (some (.kv false [] c)))
   |_=>none
  |_=>none
 |_=>none
def aRange(P:Program)(m:Mem)(t:TypeId)(x:Value):Option (Value×Mem):=
 match P.underlying t with
 |some (.map _ _)=>match x with
  |.map (some b)=>match m.get b with
   |some (.kv _ _ c)=>some (.pointer (some ⟨m.size,0,none⟩),m.push (.it false b c [] c))
   |_=>none
  |_=>none
 |_=>none
def ZI(es:List MapEntry)(seen:List Nat):List MapEntry:=es.filter fun e=> !seen.contains e.born
def aNext(m:Mem)(x:Value):Option (Value→Mem→Prop):=match x with
 |.pointer (some ⟨r,0,none⟩)=>match m.get r with
  |some (.it false b since seen last)=>match m.get b with
   |some (.kv _ es c)=>if(es.all fun e=>decide (e.born<since))=true∧since≤last then
    some fun v m'=>(v=.tuple #[.bool false]∧m'=m∧ZI es seen=[])∨∃e∈ZI es seen,v=.tuple #[.bool true,e.key,e.val]∧m'=m.set r (some (.it false b since (seen++[e.born]) c))
    else none
   |_=>none
  |_=>none
 |_=>none
def KB(get:Nat→Option Blk)(x:Value):Option Value:=match x with
 |.pointer (some ⟨r,0,none⟩)=>match get r with
  |some (.it _ b _ seen last)=>match get b with
   |some (.kv _ es c)=>if c=last then match seen.getLast? with
    |some st=>match es.find? fun e=>e.born==st with
     |some e=>some (.tuple #[e.key,e.val])
     |none=>none
    |none=>none
    else none
   |_=>none
  |_=>none
 |_=>none
theorem aEntry_mono{get get':Nat→Option Blk}(hm:∀b x,get b=some x→get' b=some x){x v:Value}(h:KB get x=some v):KB get' x=some v:=by
 unfold KB at h ⊢
 split at h<;>first|(cases h;done)|skip
 split at h<;>first|(cases h;done)|skip
 rename_i hr
 split at h<;>first|(cases h;done)|skip
 rename_i hb
 simp only[hm _ _ hr,hm _ _ hb]
 exact h
theorem aKV_mono{get get':Nat→Option Blk}(hm:∀b x,get b=some x→get' b=some x){x:Value}{es:List MapEntry}(h:aKV get x=some es):aKV get' x=some es:=by
 unfold aKV at h ⊢
 split at h<;>first|(cases h;done)|skip
 ·exact h
 ·split at h<;>first|(cases h;done)|skip
  rename_i hb
  simp only[hm _ _ hb];exact h
theorem aLookup_mono{P:Program}{get get':Nat→Option Blk}(hm:∀b x,get b=some x→get' b=some x){t:TypeId}{x k v:Value}{ok:Bool}(h:Z6 P get t x k ok=some v):Z6 P get' t x k ok=some v:=by
 unfold Z6 at h ⊢
 split at h<;>first|(cases h;done)|skip
 split at h<;>first|(cases h;done)|skip
 split at h<;>first|(cases h;done)|skip
 split at h<;>first|(cases h;done)|skip
 rename_i hf
 split at h<;>first|(cases h;done)|skip
 rename_i es hes
 simp only[if_pos hf,aKV_mono hm hes]
 exact h
theorem sameNow_true{d:TypeDesc}{k u:Value}(h:Instr.sameNow d k u=some true):u=k:=by
 unfold Instr.sameNow at h
 split at h
 ·split at h
  ·rename_i e;subst e;simp at h;subst h;rfl
  ·cases h
 ·simp only[Option.some.injEq,bytes_beq]at h;rw[h]
 ·simp at h;subst h;rfl
 ·cases h
theorem sameBits_key{d:TypeDesc}{k:Value}(h:aKey d k=true):Instr.sameBits 10000 k k=true:=by
 unfold aKey at h
 split at h
 ·simp[Instr.sameBits]
 ·simp[Instr.sameBits,bytes_beq]
 ·cases h
theorem findNow_found{d:TypeDesc}{k:Value}:∀(es:List MapEntry)(i:Nat){j:Nat}{v:Value},Instr.findNow d k es i=some (some (j,v))→∃e,i≤j∧es[j-i]?=some e∧e.val=v∧e.key=k
 | [],_,_,_,h=>by simp[Instr.findNow]at h
 |e::es,i,j,v,h=>by
  unfold Instr.findNow at h
  split at h
  ·rename_i hs
   simp only[Option.some.injEq,Prod.mk.injEq]at h
   obtain⟨rfl,rfl⟩:=h
   exact⟨e,qe _,by simp,rfl,sameNow_true hs⟩
  ·obtain⟨e',h1,h2,h3,h4⟩:=findNow_found es (i+1) h
   refine⟨e',by omega,?_,h3,h4⟩
   have:j-i=(j-(i+1))+1:=by omega
   rw[this,qF];exact h2
  ·cases h
theorem aKey_key{d:TypeDesc}{k:Value}(h:aKey d k=true):IsKey d k:=by
 unfold aKey at h
 split at h
 ·simpa[IsKey]using h
 ·trivial
 ·cases h
theorem aKey_flat{d:TypeDesc}{k:Value}(h:aKey d k=true):flat 3 k=true:=by
 unfold aKey at h
 split at h
 ·rfl
 ·rfl
 ·cases h
section
variable {P : Program} {ι : Nat → Loc} {m : Mem} {w : World}
theorem eqKs_spec:∀{a b:List Value},eqKs a b=true→a=b∧((b.zip a).all fun(x,y)=>Instr.sameBits 9999 x y)=true∧∀D,(a.all (flat D))=true
 | [],[],_=>⟨rfl,rfl,fun _=>rfl⟩
 |x::r,y::s,h=>by
  unfold eqKs at h
  split at h<;>first|(cases h;done)|skip
  ·rename_i e _;cases e
  ·rename_i j a r k b s e1 e2
   cases e1;cases e2
   split at h<;>first|(cases h;done)|skip
   rename_i hc
   obtain⟨rfl,rfl⟩:=hc
   obtain⟨rfl,h2,h3⟩:=eqKs_spec h
   refine⟨rfl,?_,fun D=>?_⟩
   ·simp only[List.zip_cons_cons,qO,h2,Bool.and_true]
    simp[Instr.sameBits]
   ·simp only[qO,h3,Bool.and_true]
    cases D<;>rfl
 | [],_::_,h=>by cases h
 |_::_,[],h=>by unfold eqKs at h;split at h<;>first|(cases h;done)|(rename_i e _;cases e;done)|(rename_i e;cases e)
theorem eqK_spec{x y:Value}(h:eqK x y=true):y=x∧Instr.sameBits 10000 y x=true:=by
 unfold eqK at h
 split at h<;>first|(cases h;done)|skip
 rename_i a b
 obtain⟨e,h2,_⟩:=eqKs_spec h
 have:a=b:=qh.1 e
 subst this
 refine⟨rfl,?_⟩
 show Instr.sameBits (9999+1) (.agg a) (.agg a)=true
 simp only[Instr.sameBits,beq_self_eq_true,Bool.true_and]
 exact h2
theorem intsFlat{kd:IntKind}{cs:List Value}(h:cs.all (intOf kd)=true)(D:Nat):cs.all (flat D)=true:=by
 rw[qk]at h ⊢
 intro v E
 have:=h v E
 unfold intOf at this
 split at this
 ·cases D<;>rfl
 ·cases this
theorem findA_run{P:Program}{kt:TypeId}{k:Value}(hk:flat 3 k=true):∀(es:List MapEntry)(i:Nat){r:Option (Nat×Value)},aFindA P kt k es i=some r→(∀e∈es,flat 3 e.key=true)→
 (∀w,(Instr.findAsking kt k es i).run P w=.ok r w)∧∀j v,r=some (j,v)→∃e,i≤j∧es[j-i]?=some e∧e.val=v∧e.key=k∧Instr.sameBits 10000 e.key k=true
 | [],i,r,h,_=>by
   cases h
   exact⟨fun w=>rfl,fun j v e=>by cases e⟩
 |e::es,i,r,h,hes=>by
  unfold aFindA at h
  have hr:∀{b:Bool},aEq P 2 kt k e.key=some b→∀w,(Op.equal kt k e.key).run P w=.ok b w:=fun hb w=>
   aEq_run (n:=fun _=>False) (ι:=fun _=>⟨0,0,0,0⟩) 2 kt k e.key _ hb _ _ (Qu 3 _ hk) (Qu 3 _ (hes e qD)) 9998 w
  split at h<;>first|(cases h;done)|skip
  ·rename_i hb
   split at h<;>first|(cases h;done)|skip
   rename_i hq
   cases h
   obtain⟨q1,q2⟩:=eqK_spec hq
   refine⟨fun w=>by simp[Instr.findAsking,hr hb w],fun j v hj=>?_⟩
   cases hj
   exact⟨e,qe _,by simp,rfl,q1,q2⟩
  ·rename_i hb
   obtain⟨h1,h2⟩:=findA_run hk es (i+1) h fun e he=>hes e (qA _ he)
   refine⟨fun w=>by simp[Instr.findAsking,hr hb w,h1 w],fun j v hj=>?_⟩
   obtain⟨e',k1,k2,k3⟩:=h2 j v hj
   refine⟨e',by omega,?_,k3⟩
   rw[show j-i=(j-(i+1))+1 by omega,qF];exact k2
theorem checkArr_run{P:Program}{kt e:TypeId}{n:Nat}{k:Value}(hd:P.underlying kt=some (.array n e))(h:arrKey P n e k=true)(em:Bool)(w:World):(Instr.checkKey em 10000 kt k).run P w=.ok () w:=by
 unfold arrKey at h
 split at h<;>first|(cases h;done)|skip
 rename_i cs
 split at h<;>first|(cases h;done)|skip
 rename_i kd hu
 split at h<;>first|(cases h;done)|skip
 rename_i i hi
 simp only[qm,decide_eq_true_eq]at h
 obtain⟨⟨hs,hl⟩,O⟩:=h
 show(Instr.checkKey em (9999+1) kt (.agg cs)).run P w=.ok () w
 rw[Instr.checkKey]
 simp only[Sem.run_bind,run_underlying hd,Result.andThen_ok]
 simp only[Std.Legacy.Range.forIn_eq_forIn_range',Std.Legacy.Range.size,Nat.sub_zero,Nat.add_one_sub_one,Nat.div_one]
 have E:∀j∈List.range' 0 n,∃x,ZH P e cs.toList (j*i.size)=some (.int kd x):=fun j U=>by
  have U:j<n:=by simpa using U
  have Z:cs.toList[j]'(by omega)∈cs.toList:=qH _
  have I:=qk.1 O _ Z
  unfold intOf at I
  split at I<;>first|(cases I;done)|skip
  rename_i k x he
  rw[decide_eq_true_eq]at I
  subst I
  refine⟨x,?_⟩
  unfold ZH
  rw[hu,hs,Nat.mul_one]
  show cs.toList[j]?=_
  rw[qd (by omega),he]
 generalize List.range' 0 n=is at E
 induction is with
 |nil=>simp
 |cons j is ih=>
  obtain⟨x,hx⟩:=E j (by simp)
  have Y:(Instr.checkKey em 9999 e (.int kd x)).run P w=.ok () w:=run_checkKey hu (by simp[IsKey]) em 9998
  simp only[List.forIn_cons,Sem.run_bind,JP hi,Result.andThen_ok,XF hx,Y,Sem.run_pure]
  exact ih fun y hy=>E y (by simp[hy])
theorem aFind_run{kt:TypeId}{k:Value}{es:List MapEntry}{r:Option (Nat×Value)}(h:aFind P kt k es=some r)(hes:∀e∈es,flat 3 e.key=true):
 flat 3 k=true∧(∀em w,(Instr.checkKey em 10000 kt k).run P w=.ok () w)∧(∀w,(Instr.findKey kt k es).run P w=.ok r w)∧(∀i v,r=some (i,v)→∃e,es[i]?=some e∧e.val=v∧e.key=k∧Instr.sameBits 10000 e.key k=true):=by
 unfold aFind at h
 split at h<;>first|(cases h;done)|skip
 rename_i d hd
 split at h
 ·rename_i E
  refine⟨aKey_flat E,fun em w=>run_checkKey hd (aKey_key E) em 9999,fun w=>run_findKey hd h,fun i v hr=>?_⟩
  subst hr
  obtain⟨e,_,h2,Z,I⟩:=findNow_found es 0 h
  exact⟨e,by simpa using h2,Z,I,by rw[I];exact sameBits_key E⟩
 ·split at h<;>first|(cases h;done)|skip
  rename_i n e hnk
  split at h<;>first|(cases h;done)|skip
  rename_i E
  have O:flat 3 k=true:=by
   have E:=E
   unfold arrKey at E
   split at E<;>first|(cases E;done)|skip
   split at E<;>first|(cases E;done)|skip
   split at E<;>first|(cases E;done)|skip
   simp only[qm]at E
   show List.all _ (flat 2)=true
   exact intsFlat E.2 2
  obtain⟨h1,h2⟩:=findA_run O es 0 h hes
  refine⟨O,fun em w=>checkArr_run hd E em w,fun w=>?_,fun i v hr=>?_⟩
  ·cases es with
   |nil=>
    cases h
    simp[Instr.findKey,run_underlying hd,Instr.findNow]
   |cons x es=>
    have:Instr.findNow (.array n e) k (x::es) 0=none:=by simp[Instr.findNow,Instr.sameNow]
    simp only[Instr.findKey,Sem.run_bind,run_underlying hd,Result.andThen_ok,this]
    exact h1 w
  ·obtain⟨e',_,Y,k3,k4,U⟩:=h2 i v hr
   exact⟨e',by simpa using Y,k3,k4,U⟩
theorem aMakeMap_run(h:Rel ι m w)(t:TypeId):Sim ι m w ((Instr.makeMap t none).run P w) (.map (some m.size)) (m.push (.kv false [] 0)):=by
 obtain⟨E,h2⟩:=h.newOther (OneMore.alloc w (.map #[] 0)) (.kv false [] 0) (fun _ _ _ e=>by cases e) ⟨rfl,rfl,fun e he=>by cases he⟩
 have I:VRel (m.push (.kv false [] 0)).Has (Qh ι m.size ⟨w.heap.size,0,0,1⟩) (.map (some m.size)) (.map (some w.heap.size)):=by
  have:=VRel.map (n:=(m.push (.kv false [] 0)).Has) (ι:=Qh ι m.size ⟨w.heap.size,0,0,1⟩) m.size (Mem.has_push_new _ _)
  rw[JU]at this
  exact this
 exact⟨_,_,_,rfl,I,E,h2⟩
theorem aLookup_run(h:Rel ι m w){t:TypeId}{x k v:Value}{ok:Bool}(hl:Z6 P m.get t x k ok=some v){x' k':Value}(hx:VRel m.Has ι x x')(hk:VRel m.Has ι k k'):∃v',(Instr.lookup t x' k' ok).run P w=.ok v' w∧VRel m.Has ι v v':=by
 unfold Z6 at hl
 split at hl<;>first|(cases hl;done)|skip
 rename_i kt et hu
 split at hl<;>first|(cases hl;done)|skip
 rename_i i hi
 split at hl<;>first|(cases hl;done)|skip
 rename_i z hz
 split at hl<;>first|(cases hl;done)|skip
 rename_i hf
 split at hl<;>first|(cases hl;done)|skip
 rename_i es hes
 have key:((x'=.map none∧es=[])∨∃r c,x'=.map (some r)∧w.heap[r]?=some (.map es.toArray c))∧∀e∈es,flat 3 e.key=true∧flat 3 e.val=true:=by
  unfold aKV at hes
  split at hes<;>first|(cases hes;done)|skip
  ·cases hes;cases hx;exact⟨.inl ⟨rfl,rfl⟩,fun e he=>by cases he⟩
  ·split at hes<;>first|(cases hes;done)|skip
   rename_i hb
   cases hes;cases hx
   obtain⟨h1,h2,h3⟩:=h.oth _ _ hb
   exact⟨.inr ⟨_,_,rfl,h1⟩,h3⟩
 obtain⟨Z,Y⟩:=key
 have a6:=fun e he=>(Y e he).2
 have O:=fun e he=>(Y e he).1
 split at hl<;>first|(cases hl;done)|skip
 ·rename_i j u hfd
  obtain⟨k1,I,U,k4⟩:=aFind_run hfd O
  have:=Vt 3 k k' k1 hk
  subst this
  cases hl
  obtain⟨e,e1,e2,e3,e4⟩:=k4 _ _ rfl
  have E:=a6 e (qj e1)
  rw[e2]at E
  refine⟨if ok=true then .tuple #[u,.bool true]else u,?_,?_⟩
  ·rcases Z with⟨rfl,rfl⟩|⟨r,c,rfl,hr⟩
   ·cases ok<;>simp[Instr.lookup,run_underlying hu,I,U]
   ·cases ok<;>simp[Instr.lookup,run_underlying hu,MapKept.run_getObj_map hr,I,U]
  ·cases ok
   ·simpa using Qu 3 u E
   ·exact .tuples (.cons (Qu 3 u E) (.cons (.bool _) .nil))
 ·rename_i hfd
  obtain⟨k1,I,U,k4⟩:=aFind_run hfd O
  have:=Vt 3 k k' k1 hk
  subst this
  cases hl
  refine⟨if ok=true then .tuple #[z,.bool false]else z,?_,?_⟩
  ·rcases Z with⟨rfl,rfl⟩|⟨r,c,rfl,hr⟩
   ·cases ok<;>simp[Instr.lookup,run_underlying hu,I,U,zeroValue,typeInfo,hi,hz]
   ·cases ok<;>simp[Instr.lookup,run_underlying hu,MapKept.run_getObj_map hr,I,U,zeroValue,typeInfo,hi,hz]
  ·cases ok
   ·simpa using Qu 3 z hf
   ·exact .tuples (.cons (Qu 3 z hf) (.cons (.bool _) .nil))
theorem Uk(w:World)(b:Nat)(o:Obj):(ChangeMaps.setBlock w b o).heap.size=w.heap.size∧(ChangeMaps.setBlock w b o).os=w.os∧(ChangeMaps.setBlock w b o).tape=w.tape∧(ChangeMaps.setBlock w b o).output=w.output:=⟨by simp[ChangeMaps.setBlock],rfl,rfl,rfl⟩
theorem setBlock_at{w:World}{b:Nat}{o o':Obj}(h:w.heap[b]?=some o'):(ChangeMaps.setBlock w b o).heap[b]?=some o∧∀g,g≠b→(ChangeMaps.setBlock w b o).heap[g]?=w.heap[g]?:=heap_set h
theorem VN{P:Program}{w:World}{r:Nat}{o o':Obj}(hr:w.heap[r]?=some o)(hk:(∃es c,o=.map es c)):(setObj r o').run P w=.ok () (ChangeMaps.setBlock w r o'):=by
 obtain⟨es,c,rfl⟩:=hk
 exact run_setObj_map o' hr
theorem aMapUpdate_run(h:Rel ι m w){t:TypeId}{x k v:Value}{m':Mem}(hl:ZW P m t x k v=some m'){x' k' v':Value}(hx:VRel m.Has ι x x')(hk:VRel m.Has ι k k')(hv:VRel m.Has ι v v'):
 ∃w',(Instr.mapUpdate t x' k' v').run P w=.ok () w'∧Rel ι m' w'∧Step ι m w ι m' w':=by
 unfold ZW at hl
 split at hl<;>first|(cases hl;done)|skip
 rename_i kt et hu
 split at hl<;>first|(cases hl;done)|skip
 rename_i b
 split at hl<;>first|(cases hl;done)|skip
 rename_i es c hb
 split at hl<;>first|(cases hl;done)|skip
 rename_i hf
 cases hx
 obtain⟨U,h2,h3⟩:=h.oth _ _ hb
 have Z:v=v':=Vt 3 v v' hf hv
 subst Z
 have O:∀(es':List MapEntry)(c':Nat),(∀e∈es',flat 3 e.key=true∧flat 3 e.val=true)→Rel ι (m.set b (some (.kv false es' c'))) (ChangeMaps.setBlock w (ι b).blk (.map es'.toArray c'))∧Step ι m w ι (m.set b (some (.kv false es' c'))) (ChangeMaps.setBlock w (ι b).blk (.map es'.toArray c')):=fun es' c' he=>by
  obtain⟨q1,q2,q3,q4⟩:=Uk w (ι b).blk (.map es'.toArray c')
  obtain⟨q5,q6⟩:=setBlock_at (o:=.map es'.toArray c') U
  exact h.turnOther hb rfl h2 (fun _ _ _ e=>by cases e) ⟨rfl,rfl,he⟩ q5 q6 q1 q2 q3 q4
 split at hl<;>first|(cases hl;done)|skip
 ·rename_i i u hfd
  obtain⟨k1,k2,k3,k4⟩:=aFind_run hfd fun e he=>(h3 e he).1
  have:=Vt 3 k k' k1 hk
  subst this
  cases hl
  obtain⟨e,Z,e2,e3,e4⟩:=k4 _ _ rfl
  have Y:(es.modify i fun e=>{ e with val:=v })=es.modify i fun e=>{ e with key:=k,val:=v }:=by
   apply List.ext_getElem?
   intro j
   rw[qK,qK]
   by_cases I:i=j
   ·subst I;rw[Z];simp[←e3]
   ·simp[I]
  refine⟨_,?_,O _ _ ?_⟩
  ·simp only[Instr.mapUpdate,Sem.run_bind,run_underlying hu,Result.andThen_ok,MapKept.run_getObj_map U,k2,k3,Instr.keyThatStays]
   simp only[List.getElem?_toArray,Z,Option.map_some,Option.getD_some,e4,if_true,Sem.run_pure,Result.andThen_ok]
   rw[VN U ⟨_,_,rfl⟩,Y]
   simp[List.modify_toArray]
  ·intro e' E
   obtain⟨j,I⟩:=List.getElem?_of_mem E
   rw[qK]at I
   cases hg:es[j]? with
   |none=>rw[hg]at I;simp at I
   |some y=>
    rw[hg]at I
    have hy:=h3 y (qj hg)
    by_cases hij:i=j
    ·simp[hij]at I;subst I;exact⟨hy.1,hf⟩
    ·simp[hij]at I;subst I;exact hy
 ·rename_i hfd
  obtain⟨k1,k2,k3,k4⟩:=aFind_run hfd fun e he=>(h3 e he).1
  have:=Vt 3 k k' k1 hk
  subst this
  cases hl
  refine⟨_,?_,O _ _ ?_⟩
  ·simp only[Instr.mapUpdate,Sem.run_bind,run_underlying hu,Result.andThen_ok,MapKept.run_getObj_map U,k2,k3]
   rw[VN U ⟨_,_,rfl⟩]
   simp
  ·intro e' E
   rw[List.mem_append,List.mem_singleton]at E
   rcases E with E|rfl
   ·exact h3 _ E
   ·exact⟨k1,hf⟩
theorem aClear_run(h:Rel ι m w){t ty:TypeId}{x:Value}{m':Mem}(hl:aClear P m t x=some m'){x':Value}(hx:VRel m.Has ι x x'):
 ∃w',(Builtin.clear_ #[t] ty #[x']).run P w=.ok (.tuple #[]) w'∧Rel ι m' w'∧Step ι m w ι m' w':=by
 unfold aClear at hl
 split at hl<;>first|(cases hl;done)|skip
 rename_i kt et hu
 split at hl<;>first|(cases hl;done)|skip
 ·cases hl;cases hx
  exact⟨w,by simp[Builtin.clear_,run_underlying hu],h,Step.refl _ _ _⟩
 ·split at hl<;>first|(cases hl;done)|skip
  rename_i b _ es c hb
  cases hl;cases hx
  obtain⟨E,h2,h3⟩:=h.oth _ _ hb
  obtain⟨Y,I,U,Z⟩:=Uk w (ι b).blk (.map #[] c)
  obtain⟨q5,O⟩:=setBlock_at (o:=.map #[] c) E
  refine⟨ChangeMaps.setBlock w (ι b).blk (.map #[] c),?_,h.turnOther hb rfl h2 (fun _ _ _ e=>by cases e) ⟨rfl,rfl,fun e he=>by cases he⟩ q5 O Y I U Z⟩
  simp[Builtin.clear_,run_underlying hu,MapKept.run_getObj_map E,VN E ⟨_,_,rfl⟩]
theorem aRange_run(h:Rel ι m w){t:TypeId}{x v:Value}{m':Mem}(hl:aRange P m t x=some (v,m')){x':Value}(hx:VRel m.Has ι x x'):Sim ι m w ((Instr.range t x').run P w) v m':=by
 unfold aRange at hl
 split at hl<;>first|(cases hl;done)|skip
 rename_i kt et hu
 split at hl<;>first|(cases hl;done)|skip
 split at hl<;>first|(cases hl;done)|skip
 rename_i b _ ro es c hb
 cases hl;cases hx
 rename_i hh
 obtain⟨O,h2,U⟩:=h.oth _ _ hb
 obtain⟨I,E⟩:=h.newOther (OneMore.alloc w (.mapIter (some (ι b).blk) c #[] c)) (.it false b c [] c) (fun _ _ _ e=>by cases e) ⟨rfl,rfl,hh⟩
 exact⟨_,_,_,by simp[Instr.range,run_underlying hu,MapKept.run_getObj_map O,newObj,Sem.run],newPtr _ _,I,E⟩
theorem leftOf_eq(es:List MapEntry)(seen:List Nat):(leftOf es.toArray seen.toArray).toList=ZI es seen:=by
 unfold leftOf ZI
 simp
theorem aEntry_run(h:Rel ι m w){x v:Value}(hl:KB m.get x=some v){x':Value}(hx:VRel m.Has ι x x'):(Instr.entry x').run P w=.ok v w∧VRel m.Has ι v v:=by
 unfold KB at hl
 split at hl<;>first|(cases hl;done)|skip
 rename_i r
 split at hl<;>first|(cases hl;done)|skip
 rename_i ro b since seen last hr
 split at hl<;>first|(cases hl;done)|skip
 rename_i ro' es c hb
 split at hl<;>first|(cases hl;done)|skip
 rename_i hc
 split at hl<;>first|(cases hl;done)|skip
 rename_i st hst
 split at hl<;>first|(cases hl;done)|skip
 rename_i e he
 cases hl;cases hx
 obtain⟨I,h2,Y⟩:=h.oth _ _ hr
 obtain⟨U,Z,O⟩:=h.oth _ _ hb
 have E:=O e (List.mem_of_find?_eq_some he)
 refine⟨?_,.tuples (.cons (Qu 3 _ E.1) (.cons (Qu 3 _ E.2) .nil))⟩
 rw[h2,Nat.zero_add]
 subst hc
 simp[Instr.entry,getObj,Sem.run,I,U,hst,he]
theorem aNext_run(h:Rel ι m w){x:Value}{R:Value→Mem→Prop}(hl:aNext m x=some R){x':Value}(hx:VRel m.Has ι x x')(ty:TypeId):∃v m',R v m'∧Sim ι m w ((Instr.next x' false ty).run P w) v m':=by
 unfold aNext at hl
 split at hl<;>first|(cases hl;done)|skip
 rename_i r
 split at hl<;>first|(cases hl;done)|skip
 rename_i b since seen last hr
 split at hl<;>first|(cases hl;done)|skip
 rename_i ro es c hb
 split at hl<;>first|(cases hl;done)|skip
 rename_i hc
 obtain⟨O,Z⟩:=hc
 cases hl;cases hx
 obtain⟨h1,h2,h3⟩:=h.oth _ _ hr
 obtain⟨g1,g2,g3⟩:=h.oth _ _ hb
 have I:∀x∈es.toArray.toList,x.born<since:=fun x hx=>by simpa using qk.1 O x (by simpa using hx)
 rw[h2,Nat.zero_add]
 rcases run_next_at (P:=P) w ty (ι r).blk (ι b).blk since last seen.toArray es.toArray c h1 g1 I Z with⟨a1,a2⟩|⟨e,Y,w1,E,a2⟩
 ·refine⟨_,m,.inl ⟨rfl,rfl,?_⟩,.pure h a2 (.tuples (.cons (.bool _) .nil))⟩
  rw[←leftOf_eq]
  apply qq
  simpa using a1
 ·rw[leftOf_eq]at Y
  refine⟨_,_,.inr ⟨e,Y,rfl,rfl⟩,?_⟩
  have U:=g3 e (by unfold ZI at Y;exact(List.mem_filter.1 Y).1)
  have e0:w1.heap[(ι r).blk]?=some (.mapIter (some (ι b).blk) since seen.toArray last):=by rcases E with rfl|rfl<;>exact h1
  obtain⟨q1,q2,q3,q4⟩:=Uk w1 (ι r).blk (.mapIter (some (ι b).blk) since (seen.toArray.push e.born) c)
  obtain⟨q5,q6⟩:=setBlock_at (o:=.mapIter (some (ι b).blk) since (seen.toArray.push e.born) c) e0
  obtain⟨t1,t2⟩:=h.turnOther (w':=ChangeMaps.setBlock w1 (ι r).blk (.mapIter (some (ι b).blk) since (seen.toArray.push e.born) c)) (x:=.it false b since (seen++[e.born]) c) hr rfl h2 (fun _ _ _ e=>by cases e) (o:=.mapIter (some (ι b).blk) since (seen.toArray.push e.born) c)
   ⟨by simp,rfl,Mem.get_has hb⟩ q5 (fun g hg=>by rw[q6 g hg];rcases E with rfl|rfl<;>rfl) (by rw[q1];rcases E with rfl|rfl<;>rfl) (by rw[q2];rcases E with rfl|rfl<;>rfl) (by rw[q3];rcases E with rfl|rfl<;>rfl) (by rw[q4];rcases E with rfl|rfl<;>rfl)
  refine⟨_,_,ι,a2,?_,t1,t2⟩
  exact .tuples (.cons (.bool _) (.cons (Qu 3 _ U.1) (.cons (Qu 3 _ U.2) .nil)))
end
end Go.Proofs.YthohbneadomgdaaGreatDoor.Abs
namespace Go.Proofs.YthohbneadomgdaaGreatDoor.Abs
open Go
section
variable [Defs]
def V7(a:List Value):List (Nat×Operand)→Option (List (Nat×Value))
 | []=>some []
 |(i,x)::r=>match JG a x with
  |some v=>match V7 a r with
   |some l=>some ((i,v)::l)
   |none=>none
  |none=>none
def ZS(a:List Value):List Operand→Option (List Value)
 | []=>some []
 |x::r=>match JG a x with
  |some v=>match ZS a r with
   |some l=>some (v::l)
   |none=>none
  |none=>none
def evOpt(a:List Value):Option Operand→Option (Option Value)
 |none=>some none
 |some x=>match JG a x with|some v=>some (some v)|none=>none
def evMin(b:Bool):Value→List Value→Option Value
 |v,[]=>some v
 |v,x::r=>match aMin2 b v x with
  |some u=>evMin b u r
  |none=>none
def VG(P:Program)(b:Builtin)(ts:List TypeId)(xs:List Value)(m:Mem):Option (Value×Mem):=
 match b with
 |.len=>match ts,xs with| [t],[x]=>(match aLen P t x with|some v=>some (v,m)|none=>none)|_,_=>none
 |.append=>match ts,xs with| [t,tx],[s,x]=>(match JT P m t tx s x with|some r=>some r|none=>aExtend P m t tx s x)|_,_=>none
 |.cap=>match ts,xs with| [t],[.slice none 0 0]=>(match P.underlying t with|some (.slice _)=>some (.int .i64 0,m)|_=>none)|_,_=>none
 |.copy=>match ts,xs with| [t,tx],[d,x]=>aCopy P m t tx d x|_,_=>none
 |.min=>match xs with|x::r=>(match evMin true x r with|some v=>some (v,m)|none=>none)| []=>none
 |.max=>match xs with|x::r=>(match evMin false x r with|some v=>some (v,m)|none=>none)| []=>none
 |.clear=>match ts,xs with| [t],[x]=>(match aClear P m t x with|some m'=>some (.tuple #[],m')|none=>none)|_,_=>none
 |_=>none
def XS(P:Program)(src dst:TypeId)(x:Value)(m:Mem):Option (Value×Mem):=
 match x with
 |.int _ n=>match P.underlying src with
  |some _=>match P.underlying dst with
   |some (.int k)=>some (.int k (k.wrap n),m)
   |_=>none
  |none=>none
 |.string s=>match P.underlying dst with
  |some .string=>match P.underlying src with|some _=>some (.string s,m)|none=>none
  |_=>aToBytes P m src dst s
 |x=>match UY P m src dst x with|some v=>some (v,m)|none=>none
def QI(o:Option Value)(m:Mem):Option (Value×Mem):=match o with|some v=>some (v,m)|none=>none
def JD(P:Program)(o:Op)(a:List Value)(m:Mem):Option (Value×Mem):=
 match o with
 |.move x|.assign x=>QI (JG a x) m
 |.pick c x y=>match JG a c with
  |some (.bool true)=>QI (JG a x) m
  |some (.bool false)=>QI (JG a y) m
  |_=>none
 |.alloc t=>aAlloc P m t
 |.box t x=>match JG a x with|some v=>aBox P m t v|none=>none
 |.build t ps=>match V7 a ps.toList with|some l=>QI (Qj P t l) m|none=>none
 |.buildSlice t n ps=>match V7 a ps.toList with|some l=>Uh P m t n l|none=>none
 |.load t p=>match JG a p with|some v=>QI (UZ P m t v) m|none=>none
 |.store t p x=>match JG a p with
  |some q=>match JG a x with
   |some v=>match Qf P m t q v with|some m'=>some (undef,m')|none=>none
   |none=>none
  |none=>none
 |.nilCheck x=>match JG a x with
  |some (.pointer (some q))=>some (.pointer (some q),m)
  |some (.func (.func f) xs ys)=>some (.func (.func f) xs ys,m)
  |_=>none
 |.binOp op t x y _=>match JG a x with
  |some u=>match JG a y with
   |some v=>QI (aBin P op t (isC x||isC y) u v) m
   |none=>none
  |none=>none
 |.unOp op _ x=>match JG a x with|some v=>QI (aUn op v) m|none=>none
 |.convert s d x=>match JG a x with|some v=>XS P s d v m|none=>none
 |.makeInterface t x=>match JG a x with
  |some v=>match P.underlying t with
   |some (.interface _)=>none
   |some _=>some (.iface t v,m)
   |none=>none
  |none=>none
 |.makeFunc (.func f) fs cs=>match ZS a fs.toList with
  |some l=>match ZS a cs.toList with
   |some r=>some (.func (.func f) l.toArray r.toArray,m)
   |none=>none
  |none=>none
 |.makeSlice t l c=>match JG a l with
  |some u=>match JG a c with
   |some v=>ZX P m t u v
   |none=>none
  |none=>none
 |.slice t x lo hi none=>match JG a x with
  |some v=>match evOpt a lo with
   |some l=>match evOpt a hi with
    |some h=>QI (aSlice P m t v l h) m
    |none=>none
   |none=>none
  |none=>none
 |.fieldAddr t x f=>match JG a x with|some v=>QI (Jf P t v f) m|none=>none
 |.field t x f=>match JG a x with
  |some (.agg cs)=>match P.underlying t with
   |some (.struct fs)=>match fs.toList[f]? with
    |some fd=>QI (ZH P fd.type cs.toList fd.offset) m
    |none=>none
   |_=>none
  |_=>none
 |.indexAddr t x i=>match JG a x with
  |some v=>match JG a i with
   |some j=>QI (aIndexAddr P t v j) m
   |none=>none
  |none=>none
 |.index t x i=>match JG a x with
  |some v=>match JG a i with
   |some j=>QI (KA P t v j) m
   |none=>none
  |none=>none
 |.extract x i=>match JG a x with
  |some (.tuple cs)=>QI cs.toList[i]? m
  |_=>none
 |.makeMap _ none=>some (.map (some m.size),m.push (.kv false [] 0))
 |.lookup t x i ok=>match JG a x with
  |some v=>match JG a i with
   |some k=>QI (Z6 P m.get t v k ok) m
   |none=>none
  |none=>none
 |.mapUpdate t x i y=>match JG a x with
  |some v=>match JG a i with
   |some k=>match JG a y with
    |some u=>match ZW P m t v k u with|some m'=>some (undef,m')|none=>none
    |none=>none
   |none=>none
  |none=>none
 |.range t x=>match JG a x with|some v=>aRange P m t v|none=>none
 |.entry x=>match JG a x with|some v=>QI (KB m.get v) m|none=>none
 |.call { callee:=.builtin b,args,argTypes }=>match ZS a args.toList with
  |some xs=>VG P b argTypes.toList xs m
  |none=>none
 |_=>none
section sim
variable {P : Program} {ι : Nat → Loc} {m : Mem} {w : World}
def Ran(P:Program)(o:Oper)(act:Act)(w:World)(v':Value)(w':World):Prop:=
 (execOp act.eval o).run P w=.ok (.value v') w'∨((execOp act.eval o).run P w=.ok .skip w'∧v'=undef)
def OSim(P:Program)(ι:Nat→Loc)(m:Mem)(w:World)(o:Oper)(act:Act)(v:Value)(m':Mem):Prop:=
 ∃v' w' κ,Ran P o act w v' w'∧VRel m'.Has κ v v'∧Rel κ m' w'∧Step ι m w κ m' w'
theorem OSim.same(h:Rel ι m w){o:Oper}{act:Act}{v v':Value}(hr:(execOp act.eval o).run P w=.ok (.value v') w)(hv:VRel m.Has ι v v'):OSim P ι m w o act v m:=
 ⟨v',w,ι,.inl hr,hv,h,Step.refl _ _ _⟩
theorem OSim.of(_:Rel ι m w){o:Oper}{act:Act}{v:Value}{m':Mem}{s:Sem Value}(he:execOp act.eval o=(do pure (.value (←s)):Sem Next))(hs:Sim ι m w (s.run P w) v m'):OSim P ι m w o act v m':=by
 obtain⟨v',w',κ,E,h2⟩:=hs
 exact⟨v',w',κ,.inl (by rw[he];simp[E]),h2⟩
theorem OSim.ofPure(h:Rel ι m w){o:Oper}{act:Act}{v:Value}{s:Sem Value}(he:execOp act.eval o=(do pure (.value (←s)):Sem Next))(hs:∃v',(∀w,s.run P w=.ok v' w)∧VRel m.Has ι v v'):OSim P ι m w o act v m:=by
 obtain⟨v',E,h2⟩:=hs
 exact OSim.same h (by rw[he];simp[E w]) h2
theorem evParts_rel{n:Nat→Prop}{a:List Value}{act:Act}(ha:ARel n ι a act):∀{ps:List (Nat×Operand)}{l:List (Nat×Value)},V7 a ps=some l→PRel n ι l (ps.map fun p=>(p.1,act.eval p.2))
 | [],l,h=>by cases h;exact .nil
 |(i,x)::r,l,h=>by
  unfold V7 at h
  split at h<;>first|(cases h;done)|skip
  rename_i v hv
  split at h<;>first|(cases h;done)|skip
  rename_i l' hl
  cases h
  exact .cons i (Jk ha hv) (evParts_rel ha hl)
theorem ZR{n:Nat→Prop}{a:List Value}{act:Act}(ha:ARel n ι a act):∀{xs:List Operand}{l:List Value},ZS a xs=some l→VRels n ι l (xs.map act.eval)
 | [],l,h=>by cases h;exact .nil
 |x::r,l,h=>by
  unfold ZS at h
  split at h<;>first|(cases h;done)|skip
  rename_i v hv
  split at h<;>first|(cases h;done)|skip
  rename_i l' hl
  cases h
  exact .cons (Jk ha hv) (ZR ha hl)
theorem evOpt_rel{n:Nat→Prop}{a:List Value}{act:Act}(ha:ARel n ι a act){x:Option Operand}{l:Option Value}(h:evOpt a x=some l):ORel n ι l (x.map act.eval):=by
 unfold evOpt at h
 split at h
 ·cases h;trivial
 ·split at h<;>first|(cases h;done)|skip
  rename_i v hv
  cases h
  exact Jk ha hv
theorem Qk{o:Option Value}{m m':Mem}{v:Value}(h:QI o m=some (v,m')):o=some v∧m'=m:=by
 unfold QI at h
 split at h<;>cases h
 exact⟨rfl,rfl⟩
theorem VRels.two{n:Nat→Prop}{x y:Value}{us:List Value}(h:VRels n ι [x,y] us):∃x' y',us=[x',y']∧VRel n ι x x'∧VRel n ι y y':=by
 have hl:=h.1
 match us,hl with
 | [x',y'],_=>exact⟨x',y',rfl,h.2 0 x x' rfl rfl,h.2 1 y y' rfl rfl⟩
theorem VRels.one'{n:Nat→Prop}{x:Value}{us:List Value}(h:VRels n ι [x] us):∃x',us=[x']∧VRel n ι x x':=by
 have hl:=h.1
 match us,hl with
 | [x'],_=>exact⟨x',rfl,h.2 0 x x' rfl rfl⟩
theorem VRels.head{n:Nat→Prop}{x:Value}{xs us:List Value}(h:VRels n ι (x::xs) us):∃x' us',us=x'::us'∧VRel n ι x x'∧VRels n ι xs us':=by
 have hl:=h.1
 match us,hl with
 |x'::us',hl=>exact⟨x',us',rfl,h.2 0 x x' rfl rfl,by simpa using hl,fun i a b ha hb=>h.2 (i+1) a b (by simpa using ha) (by simpa using hb)⟩
theorem evMin_run{n:Nat→Prop}{b:Bool}:∀{xs:List Value}{v u v':Value}{us:List Value},evMin b v xs=some u→VRel n ι v v'→VRels n ι xs us→
 (∀w,(us.foldlM (if b then Builtin.min2 else Builtin.max2) v').run P w=.ok u w)∧VRel n ι u u∨(xs=[]∧u=v∧us=[])
 | [],v,u,v',us,h,hv,hr=>by
   cases h
   exact .inr ⟨rfl,rfl,qq hr.1.symm⟩
 |x::xs,v,u,v',us,h,hv,hr=>by
  left
  obtain⟨x',us',rfl,hx,hrs⟩:=hr.head
  unfold evMin at h
  split at h<;>first|(cases h;done)|skip
  rename_i y hy
  obtain⟨h1,h2⟩:=aMin2_run (P:=P) hy hv hx
  have hf:∀w,((if b then Builtin.min2 else Builtin.max2) v' x').run P w=.ok y w:=fun w=>by
   have:=h1 w
   cases b<;>exact this
  rcases evMin_run h h2 hrs with h3|⟨h3,h4,h5⟩
  ·refine⟨fun w=>?_,h3.2⟩
   rw[List.foldlM_cons,Sem.run_bind,hf w,Result.andThen_ok]
   exact h3.1 w
  ·subst h3;subst h4;subst h5
   refine⟨fun w=>?_,h2⟩
   rw[List.foldlM_cons,Sem.run_bind,hf w,Result.andThen_ok]
   rfl
theorem evOp_run{o:Oper}{a:List Value}{act:Act}{v:Value}{m':Mem}(hr:Rel ι m w)(ha:ARel m.Has ι a act)(h:JD P o.op a m=some (v,m')):OSim P ι m w o act v m':=by
 obtain⟨am,op,type,pos,ak,ai⟩:=o
 have al:∀b ro s cs,m.get b=some (.cells ro s cs)→(ι b).stride=s:=fun b ro s cs hb=>by
  obtain⟨_,_,_,_,_,hs,_⟩:=hr.at' b ro s cs hb
  exact hs.eq
 cases op
 case move x=>
  obtain⟨I,rfl⟩:=Qk h
  replace h:=I
  exact OSim.same hr rfl (Jk ha h)
 case assign x=>
  obtain⟨I,rfl⟩:=Qk h
  replace h:=I
  exact OSim.same hr rfl (Jk ha h)
 case pick c x y=>
  simp only[JD]at h
  split at h<;>first|(cases h;done)|skip
  all_goals
   rename_i hc
   obtain⟨I,rfl⟩:=Qk h
   replace h:=I
   have ah:=Jk ha hc
   generalize O:act.eval c=y' at ah
   cases ah
   exact OSim.same hr (v':=act.eval _) (by simp[execOp,O,asBool]) (Jk ha h)
 case alloc t=>
  exact OSim.of hr rfl (aAlloc_run hr h)
 case box t x=>
  simp only[JD]at h
  split at h<;>first|(cases h;done)|skip
  rename_i hv
  exact OSim.of hr rfl (aBox_run hr h (Jk ha hv))
 case build t ps=>
  simp only[JD]at h
  split at h<;>first|(cases h;done)|skip
  rename_i l hl
  obtain⟨I,rfl⟩:=Qk h
  replace h:=I
  refine OSim.ofPure hr rfl (aBuild_run h ?_)
  have:=evParts_rel ha hl
  rw[qf]
  exact this
 case buildSlice t n ps=>
  simp only[JD]at h
  split at h<;>first|(cases h;done)|skip
  rename_i l hl
  refine OSim.of hr rfl (aBuildSlice_run hr h ?_)
  have:=evParts_rel ha hl
  rw[qf]
  exact this
 case load t p=>
  simp only[JD]at h
  split at h<;>first|(cases h;done)|skip
  rename_i q hq
  obtain⟨I,rfl⟩:=Qk h
  replace h:=I
  obtain⟨v',Z,h2⟩:=aLoad_run hr h (Jk ha hq)
  exact OSim.same hr (by simp[execOp,Z]) h2
 case store t p x=>
  simp only[JD]at h
  split at h<;>first|(cases h;done)|skip
  rename_i q hq
  split at h<;>first|(cases h;done)|skip
  rename_i u hu
  split at h<;>first|(cases h;done)|skip
  rename_i m1 hm1
  cases h
  obtain⟨w',Z,h2,h3⟩:=aStore_run hr hm1 (Jk ha hq) (Jk ha hu)
  exact⟨undef,w',ι,.inr ⟨by simp[execOp,Z],rfl⟩,.tuple _ _ rfl (fun i x y hx=>by simp at hx),h2,h3⟩
 case nilCheck x=>
  simp only[JD]at h
  split at h<;>first|(cases h;done)|skip
  ·rename_i q hq
   cases h
   have hx:=Jk ha hq
   generalize O:act.eval x=y at hx
   have ad:=hx
   cases hx
   exact OSim.same hr (by simp[execOp,O]) ad
  ·rename_i f xs ys hq
   cases h
   have hx:=Jk ha hq
   generalize O:act.eval x=y at hx
   have ad:=hx
   cases hx
   exact OSim.same hr (by simp[execOp,O]) ad
 case binOp op t x y ty=>
  simp only[JD]at h
  split at h<;>first|(cases h;done)|skip
  rename_i u hu
  split at h<;>first|(cases h;done)|skip
  rename_i q hq
  obtain⟨I,rfl⟩:=Qk h
  replace h:=I
  exact OSim.ofPure hr rfl (aBin_run h (Jk ha hu) (Jk ha hq))
 case unOp op t x=>
  simp only[JD]at h
  split at h<;>first|(cases h;done)|skip
  rename_i u hu
  obtain⟨I,rfl⟩:=Qk h
  replace h:=I
  exact OSim.ofPure hr rfl (aUn_run h (Jk ha hu))
 case convert s d x=>
  simp only[JD]at h
  split at h<;>first|(cases h;done)|skip
  rename_i u hu
  have hx:=Jk ha hu
  unfold XS at h
  split at h
  ·rename_i k n
   split at h<;>first|(cases h;done)|skip
   rename_i ds hs
   split at h<;>first|(cases h;done)|skip
   rename_i k' hd
   cases h
   generalize O:act.eval x=y at hx
   cases hx
   exact OSim.same hr (by simp[execOp,O,convert,run_underlying hs,run_underlying hd,Conv.intToInt]) (.int _ _)
  ·rename_i q
   split at h
   ·rename_i hd
    split at h<;>first|(cases h;done)|skip
    rename_i ds hs
    cases h
    generalize O:act.eval x=y at hx
    cases hx
    exact OSim.same hr (by simp[execOp,O,convert,run_underlying hs,run_underlying hd]) (.string _)
   ·have hs:=aToBytes_run hr h
    generalize O:act.eval x=y at hx
    cases hx
    refine OSim.of hr (s:=convert s d (.string q)) ?_ hs
    simp only[execOp,O]
  ·split at h<;>first|(cases h;done)|skip
   rename_i v1 hv1
   cases h
   obtain⟨v',Z,h2⟩:=aToString_run hr hv1 hx
   exact OSim.same hr (by simp[execOp,Z]) h2
 case makeInterface t x=>
  simp only[JD]at h
  split at h<;>first|(cases h;done)|skip
  rename_i u hu
  split at h<;>first|(cases h;done)|skip
  rename_i d hni hd
  cases h
  refine OSim.same hr (v':=.iface t (act.eval x)) ?_ (.iface t _ _ (Jk ha hu))
  simp only[execOp,Sem.run_bind,Instr.makeInterface,run_underlying hd w,Result.andThen_ok]
  cases d<;>first|rfl|exact absurd hd (hni _)
 case makeFunc fn fs cs=>
  cases fn<;>simp only[JD]at h<;>first|(cases h;done)|skip
  split at h<;>first|(cases h;done)|skip
  rename_i l hl
  split at h<;>first|(cases h;done)|skip
  rename_i r hr2
  cases h
  have Z:=ZR ha hl
  have h2:=ZR ha hr2
  refine OSim.same hr (v':=.func (.func _) (fs.map act.eval) (cs.map act.eval)) rfl (.func _ _ _ _ _ (by simpa using Z.1) (fun i x y hx hy=>?_) (by simpa using h2.1) (fun i x y hx hy=>?_))
  ·exact Z.2 i x y (by simpa using hx) (by rw[←qf,qc];exact hy)
  ·exact h2.2 i x y (by simpa using hx) (by rw[←qf,qc];exact hy)
 case makeSlice t l c=>
  simp only[JD]at h
  split at h<;>first|(cases h;done)|skip
  rename_i u hu
  split at h<;>first|(cases h;done)|skip
  rename_i q hq
  exact OSim.of hr rfl (aMakeSlice_run hr h (Jk ha hu) (Jk ha hq))
 case slice t x lo hi mx=>
  cases mx<;>simp only[JD]at h<;>first|(cases h;done)|skip
  split at h<;>first|(cases h;done)|skip
  rename_i u hu
  split at h<;>first|(cases h;done)|skip
  rename_i l hl
  split at h<;>first|(cases h;done)|skip
  rename_i hh hhh
  obtain⟨I,rfl⟩:=Qk h
  replace h:=I
  exact OSim.ofPure hr rfl (aSlice_run al h (Jk ha hu) (evOpt_rel ha hl) (evOpt_rel ha hhh))
 case fieldAddr t x f=>
  simp only[JD]at h
  split at h<;>first|(cases h;done)|skip
  rename_i u hu
  obtain⟨I,rfl⟩:=Qk h
  replace h:=I
  exact OSim.ofPure hr rfl (aFieldAddr_run h (Jk ha hu))
 case field t x f=>
  simp only[JD]at h
  split at h<;>first|(cases h;done)|skip
  rename_i cs hcs
  split at h<;>first|(cases h;done)|skip
  rename_i fs hu
  split at h<;>first|(cases h;done)|skip
  rename_i fd hf
  obtain⟨I,rfl⟩:=Qk h
  replace h:=I
  exact OSim.ofPure hr rfl (aField_run hu hf h (Jk ha hcs))
 case indexAddr t x i=>
  simp only[JD]at h
  split at h<;>first|(cases h;done)|skip
  rename_i u hu
  split at h<;>first|(cases h;done)|skip
  rename_i q hq
  obtain⟨I,rfl⟩:=Qk h
  replace h:=I
  exact OSim.ofPure hr rfl (aIndexAddr_run h (Jk ha hu) (Jk ha hq))
 case index t x i=>
  simp only[JD]at h
  split at h<;>first|(cases h;done)|skip
  rename_i u hu
  split at h<;>first|(cases h;done)|skip
  rename_i q hq
  obtain⟨I,rfl⟩:=Qk h
  replace h:=I
  exact OSim.ofPure hr rfl (aIndex_run h (Jk ha hu) (Jk ha hq))
 case extract x i=>
  simp only[JD]at h
  split at h<;>first|(cases h;done)|skip
  rename_i cs hcs
  obtain⟨I,rfl⟩:=Qk h
  replace h:=I
  exact OSim.ofPure hr rfl (aExtract_run h (Jk ha hcs))
 case makeMap t r=>
  cases r<;>simp only[JD]at h<;>first|(cases h;done)|skip
  cases h
  exact OSim.of hr rfl (aMakeMap_run hr t)
 case lookup t x i ok=>
  simp only[JD]at h
  split at h<;>first|(cases h;done)|skip
  rename_i u hu
  split at h<;>first|(cases h;done)|skip
  rename_i q hq
  obtain⟨I,rfl⟩:=Qk h
  obtain⟨v',Z,h2⟩:=aLookup_run hr I (Jk ha hu) (Jk ha hq)
  exact OSim.same hr (by simp[execOp,Z]) h2
 case mapUpdate t x i y=>
  simp only[JD]at h
  split at h<;>first|(cases h;done)|skip
  rename_i u hu
  split at h<;>first|(cases h;done)|skip
  rename_i q hq
  split at h<;>first|(cases h;done)|skip
  rename_i y hy
  split at h<;>first|(cases h;done)|skip
  rename_i m1 hm1
  cases h
  obtain⟨w',Z,h2,h3⟩:=aMapUpdate_run hr hm1 (Jk ha hu) (Jk ha hq) (Jk ha hy)
  exact⟨undef,w',ι,.inr ⟨by simp[execOp,Z],rfl⟩,.tuple _ _ rfl (fun i x y hx=>by simp at hx),h2,h3⟩
 case entry x=>
  simp only[JD]at h
  split at h<;>first|(cases h;done)|skip
  rename_i u hu
  obtain⟨I,rfl⟩:=Qk h
  obtain⟨Z,h2⟩:=aEntry_run (P:=P) hr I (Jk ha hu)
  exact OSim.same hr (by simp[execOp,Z]) h2
 case range t x=>
  simp only[JD]at h
  split at h<;>first|(cases h;done)|skip
  rename_i u hu
  exact OSim.of hr rfl (aRange_run hr h (Jk ha hu))
 case call c=>
  obtain⟨aa,U,ts⟩:=c
  cases aa<;>simp only[JD]at h<;>first|(cases h;done)|skip
  rename_i b
  split at h<;>first|(cases h;done)|skip
  rename_i xs hxs
  have E:=ZR ha hxs
  cases b<;>simp only[VG]at h<;>first|(cases h;done)|skip
  case len=>
   split at h<;>first|(cases h;done)|skip
   rename_i t x hts
   split at h<;>first|(cases h;done)|skip
   rename_i u hu
   cases h
   obtain⟨x',O,Y⟩:=E.one'
   obtain⟨v',Z,h2⟩:=aLen_run (ty:=type) hu Y
   refine OSim.same hr (v':=v') ?_ h2
   have e1:(U.map act.eval)=#[x']:=by rw[←qh,qf,O]
   have e2:ts=#[t]:=by rw[←qh,hts]
   simp[execOp,resolve,invoke,builtin,e1,e2,Z w]
  case append=>
   split at h<;>first|(cases h;done)|skip
   rename_i t tx s x hts
   obtain⟨s',x',O,ab,Y⟩:=E.two
   have e1:(U.map act.eval)=#[s',x']:=by rw[←qh,qf,O]
   have e2:ts=#[t,tx]:=by rw[←qh,hts]
   split at h
   ·rename_i r hq
    cases h
    refine OSim.of hr (s:=Builtin.append_ #[t,tx] type #[s',x']) ?_ (aAppend_run hr hq ab Y)
    simp[execOp,resolve,invoke,builtin,e1,e2]
   refine OSim.of hr (s:=Builtin.append_ #[t,tx] type #[s',x']) ?_ (aExtend_run hr h ab Y)
   simp[execOp,resolve,invoke,builtin,e1,e2]
  case cap=>
   split at h<;>first|(cases h;done)|skip
   rename_i t hts
   split at h<;>first|(cases h;done)|skip
   rename_i e hu
   cases h
   obtain⟨x',O,Y⟩:=E.one'
   cases Y
   have e1:(U.map act.eval)=#[.slice none 0 0]:=by rw[←qh,qf,O]
   have e2:ts=#[t]:=by rw[←qh,hts]
   refine OSim.same hr (v':=.int .i64 0) ?_ (.int _ _)
   simp[execOp,resolve,invoke,builtin,e1,e2,Builtin.cap_,run_underlying hu,goInt]
  case copy=>
   split at h<;>first|(cases h;done)|skip
   rename_i t tx s x hts
   obtain⟨s',x',O,ab,Y⟩:=E.two
   have e1:(U.map act.eval)=#[s',x']:=by rw[←qh,qf,O]
   have e2:ts=#[t,tx]:=by rw[←qh,hts]
   refine OSim.of hr (s:=Builtin.copy_ #[t,tx] type #[s',x']) ?_ (aCopy_run hr h ab Y)
   simp[execOp,resolve,invoke,builtin,e1,e2]
  case clear=>
   split at h<;>first|(cases h;done)|skip
   rename_i t x hts
   split at h<;>first|(cases h;done)|skip
   rename_i u hu
   cases h
   obtain⟨x',O,Y⟩:=E.one'
   obtain⟨w',Z,h2,h3⟩:=aClear_run (ty:=type) hr hu Y
   have e1:(U.map act.eval)=#[x']:=by rw[←qh,qf,O]
   have e2:ts=#[t]:=by rw[←qh,hts]
   refine⟨.tuple #[],w',ι,.inl ?_,.tuple _ _ rfl (fun i x y hx=>by simp at hx),h2,h3⟩
   simp[execOp,resolve,invoke,builtin,e1,e2,Z]
  case min=>
   split at h<;>first|(cases h;done)|skip
   rename_i x r
   split at h<;>first|(cases h;done)|skip
   rename_i u hu
   cases h
   obtain⟨x',ae,O,hx,af⟩:=E.head
   have e1:(U.map act.eval)=(x'::ae).toArray:=by rw[←qh,qf,O]
   rcases evMin_run (P:=P) hu hx af with⟨h3,h4⟩|⟨h3,h4,h5⟩
   ·refine OSim.same hr ?_ h4
    have:=h3 w
    simp only[if_true]at this
    simp[execOp,resolve,invoke,builtin,e1,Builtin.min_,this]
   ·subst h3;subst h4;subst h5
    exact OSim.same hr (v':=x') (by simp[execOp,resolve,invoke,builtin,e1,Builtin.min_]) hx
  case max=>
   split at h<;>first|(cases h;done)|skip
   rename_i x r
   split at h<;>first|(cases h;done)|skip
   rename_i u hu
   cases h
   obtain⟨x',ae,O,hx,af⟩:=E.head
   have e1:(U.map act.eval)=(x'::ae).toArray:=by rw[←qh,qf,O]
   rcases evMin_run (P:=P) hu hx af with⟨h3,h4⟩|⟨h3,h4,h5⟩
   ·refine OSim.same hr ?_ h4
    have:=h3 w
    simp only[qC,if_false]at this
    simp[execOp,resolve,invoke,builtin,e1,Builtin.max_,this]
   ·subst h3;subst h4;subst h5
    exact OSim.same hr (v':=x') (by simp[execOp,resolve,invoke,builtin,e1,Builtin.max_]) hx
 all_goals(simp only[JD]at h;cases h)
def evAny(o:Op)(a:List Value)(m:Mem):Option (Value→Mem→Prop):=match o with
 |.next it false=>match JG a it with|some v=>aNext m v|none=>none
 |_=>none
theorem evAny_run{o:Oper}{a:List Value}{act:Act}{R:Value→Mem→Prop}(hr:Rel ι m w)(ha:ARel m.Has ι a act)(h:evAny o.op a m=some R):∃v m',R v m'∧OSim P ι m w o act v m':=by
 obtain⟨O,op,type,pos,I,E⟩:=o
 unfold evAny at h
 split at h<;>first|(cases h;done)|skip
 rename_i it ho
 split at h<;>first|(cases h;done)|skip
 rename_i v hv
 cases ho
 obtain⟨u,m',U,h2⟩:=aNext_run (P:=P) hr h (Jk ha hv) type
 exact⟨u,m',U,OSim.of hr rfl h2⟩
end sim
end
section
variable [Defs]
section
variable {P : Program}
def Spec(P:Program)(f:FuncId)(xs:List Value)(m:Mem)(R:Value→Mem→Prop):Prop:=
 ∀(ι:Nat→Loc)(w:World)(ys:List Value),VRels m.Has ι xs ys→Rel ι m w→
  Calls P f ys.toArray w fun e w'=>∃v v' κ m',R v m'∧e=.returned v'∧VRel m'.Has κ v v'∧Rel κ m' w'∧Step ι m w κ m' w'
theorem Spec.mono{f:FuncId}{xs:List Value}{m:Mem}{R R':Value→Mem→Prop}(h:Spec P f xs m R)(hr:∀v m',R v m'→R' v m'):Spec P f xs m R':=
 fun ι w ys hy hw=>(h ι w ys hy hw).mono fun _ _ ⟨v,v',κ,m',h1,h2⟩=>⟨v,v',κ,m',hr v m' h1,h2⟩
def Qg(P:Program)(k:FuncId):Bool:=
 match P.funcs[k]? with
 | some fn => fn.body.isSome && !(fn.name == "runtime.NumGoroutine")
 |none=>false
def Xl(a:List Value)(o:Op):Option (FuncId×List Value):=
 match o with
 |.call { callee:=.value f,args,.. }=>match JG a f with
  |some (.func (.func k) fs cs)=>match ZS a args.toList with
   |some xs=>some (k,fs.toList++xs++cs.toList)
   |none=>none
  |_=>none
 |_=>none
theorem Vu{n:Nat→Prop}{ι:Nat→Loc}{o:Oper}{a:List Value}{act:Act}{k:FuncId}{xs:List Value}(ha:ARel n ι a act)(h:Xl a o.op=some (k,xs))(he:Qg P k=true):
 ∃ys,VRels n ι xs ys∧∀w,(execOp act.eval o).run P w=.ok (.enter k ys.toArray) w:=by
 obtain⟨a6,op,type,pos,a2,Z⟩:=o
 cases op<;>simp only[Xl]at h<;>first|(cases h;done)|skip
 rename_i c
 obtain⟨I,E,ts⟩:=c
 cases I<;>simp only at h<;>first|(cases h;done)|skip
 rename_i f
 split at h<;>first|(cases h;done)|skip
 rename_i k' fs cs hf
 split at h<;>first|(cases h;done)|skip
 rename_i xs' hxs
 cases h
 have U:=ZR ha hxs
 have Y:=Jk ha hf
 generalize hff:act.eval f=fv at Y
 cases Y with
 |func _ _ ys _ ws hs hh hs2 hh2=>
  refine⟨ys.toList++E.toList.map act.eval++ws.toList,?_,fun w=>?_⟩
  ·refine(VRels.append ⟨by simpa using hs,fun i x y hx hy=>hh i x y (by simpa using hx) (by simpa using hy)⟩ U).append ⟨by simpa using hs2,fun i x y hx hy=>hh2 i x y (by simpa using hx) (by simpa using hy)⟩
  ·unfold Qg at he
   cases hk:P.funcs[k]? with
   |none=>rw[hk]at he;cases he
   |some fn=>
    rw[hk]at he
    simp only[qm,Bool.not_eq_true']at he
    have hb:fn.body.isNone=false:=by
     cases hb:fn.body with
     |none=>rw[hb]at he;cases he.1
     |some _=>rfl
    have O:(callFunc k (ys++E.map act.eval++ws)).run P w=.ok (.enter k (ys++E.map act.eval++ws)) w:=by
     simp only[callFunc,Sem.run_bind,run_program,Result.andThen_ok,hk,he.2,hb,qC,if_false]
     rfl
    simp only[execOp,resolve,Deferred.ofValue,hff,Sem.run_bind,Sem.run_pure,Result.andThen_ok,invoke,O]
    congr 2
    apply Array.ext'
    simp
def K6(ι:Nat→Loc)(m:Mem)(w:World)(Q:Exit→List Value→Mem→Prop):Exit→Act→World→Prop:=fun e act w'=>
 ∃κ a m',Q e a m'∧ARel m'.Has κ a act∧Rel κ m' w'∧Step ι m w κ m' w'
def AW(P:Program)(c:Code)(Q:Exit→List Value→Mem→Prop)(a:List Value)(m:Mem):Prop:=
 ∀(ι₀:Nat→Loc)(m₀:Mem)(w₀:World)(ι:Nat→Loc)(act:Act)(w:World),Step ι₀ m₀ w₀ ι m w→ARel m.Has ι a act→Rel ι m w→c.wp P (K6 ι₀ m₀ w₀ Q) act w
variable {Q : Exit → List Value → Mem → Prop} {a : List Value} {m : Mem}
theorem AW.mono{c:Code}{Q':Exit→List Value→Mem→Prop}(h:AW P c Q a m)(hq:∀e a m,Q e a m→Q' e a m):AW P c Q' a m:=
 fun ι₀ m₀ w₀ ι act w hs ha hr=>wp_mono (h ι₀ m₀ w₀ ι act w hs ha hr) fun _ _ _ ⟨κ,a',m',h1,h2⟩=>⟨κ,a',m',hq _ _ _ h1,h2⟩
theorem AW_skip(h:Q .normal a m):AW P .skip Q a m:=fun _ _ _ ι _ _ hs ha hr=>wp_skip ⟨ι,a,m,h,ha,hr,hs⟩
theorem AW_exit{id:Nat}(h:Q (.exit id) a m):AW P (.exit id) Q a m:=fun _ _ _ ι _ _ hs ha hr=>wp_exit ⟨ι,a,m,h,ha,hr,hs⟩
theorem AW_ret(h:Q .ret a m):AW P .ret Q a m:=fun _ _ _ ι _ _ hs ha hr=>wp_ret ⟨ι,a,m,h,ha,hr,hs⟩
def thenA(next:List Value→Mem→Prop)(Q:Exit→List Value→Mem→Prop):Exit→List Value→Mem→Prop
 |.normal,a,m=>next a m
 |e,a,m=>Q e a m
theorem AW_seq{x y:Code}(h:AW P x (thenA (AW P y Q) Q) a m):AW P (.seq x y) Q a m:=by
 intro ι₀ m₀ w₀ ι act w hs Z Y
 refine wp_seq (wp_mono (h ι₀ m₀ w₀ ι act w hs Z Y) ?_)
 rintro e E w' ⟨κ,a',m',O,h2,I,U⟩
 cases e with
 |normal=>exact O ι₀ m₀ w₀ κ E w' U h2 I
 |_=>exact⟨κ,a',m',O,h2,I,U⟩
theorem AW_cond{c:Operand}{x y:Code}{t:Bool}(hc:JG a c=some (.bool t))(ht:t=true→AW P x Q a m)(hf:t=false→AW P y Q a m):AW P (.cond c x y) Q a m:=by
 intro ι₀ m₀ w₀ ι act w hs E I
 have O:=Jk E hc
 generalize hv:act.eval c=v at O
 cases O
 refine wp_cond_split hv (fun h=>ht h ι₀ m₀ w₀ ι act w hs E I) (fun h=>hf h ι₀ m₀ w₀ ι act w hs E I)
def inBlockA(id:Nat)(Q:Exit→List Value→Mem→Prop):Exit→List Value→Mem→Prop
 |.exit id',a,m=>if id'=id then Q .normal a m else Q (.exit id') a m
 |e,a,m=>Q e a m
theorem AW_block{id:Nat}{c:Code}(h:AW P c (inBlockA id Q) a m):AW P (.block id c) Q a m:=by
 intro ι₀ m₀ w₀ ι act w hs ha Z
 refine wp_block (wp_mono (h ι₀ m₀ w₀ ι act w hs ha Z) ?_)
 rintro e Y w' ⟨κ,U,m',E,h2,I,O⟩
 cases e with
 |exit id'=>
  simp only[inBlockA]at E
  simp only[Exit.inBlock]
  split
  ·rename_i e;rw[if_pos e]at E;exact⟨κ,U,m',E,h2,I,O⟩
  ·rename_i e;rw[if_neg e]at E;exact⟨κ,U,m',E,h2,I,O⟩
 |_=>exact⟨κ,U,m',E,h2,I,O⟩
def Xq(P:Program)(all:List Oper)(Q:List Value→Mem→Prop):List Oper→List Value→Mem→Prop
 | [],a,m=>Q a m
 |o::r,a,m=>if Region.wanted o (JO all a)=true then
   (∃v m',JD P o.op a m=some (v,m')∧Xq P all Q r (QV a o.dst v) m')∨
   (∃k xs R,Xl a o.op=some (k,xs)∧Qg P k=true∧Spec P k xs m R∧∀v m',R v m'→Xq P all Q r (QV a o.dst v) m')∨
   (∃R,evAny o.op a m=some R∧∀v m',R v m'→Xq P all Q r (QV a o.dst v) m')
  else Xq P all Q r (QV a o.dst undef) m
theorem Xt{n:Nat→Prop}{ι:Nat→Loc}:VRel n ι undef undef:=.tuple _ _ rfl fun i x y hx=>by simp at hx
theorem aOps_run{ops:Array Oper}{Qn:List Value→Mem→Prop}(hQ:∀a m,Qn a m→Q .normal a m):∀(l:List Oper)(a:List Value)(m:Mem),Xq P ops.toList Qn l a m→
 ∀(ι₀:Nat→Loc)(m₀:Mem)(w₀:World)(ι:Nat→Loc)(act:Act)(w:World),Step ι₀ m₀ w₀ ι m w→ARel m.Has ι a act→Rel ι m w→wpList P ops (K6 ι₀ m₀ w₀ Q) l act w
 | [],a,m,h,_,_,_,ι,_,_,hs,ha,hr=>⟨ι,a,m,hQ a m h,ha,hr,hs⟩
 |o::r,a,m,h,ι₀,m₀,w₀,ι,act,w,hs,ha,hr=>by
  have hy:yielded ops act.tmps=JO ops.toList a:=funext fun j=>Va ha ops j
  simp only[Xq]at h
  simp only[wpList,hy]
  split at h
  ·rename_i hw
   rw[if_pos hw]
   left
   unfold Oper.wp
   replace h:(∃v m',OSim P ι m w o act v m'∧Xq P ops.toList Qn r (QV a o.dst v) m')∨(∃k xs R,Xl a o.op=some (k,xs)∧Qg P k=true∧Spec P k xs m R∧∀v m',R v m'→Xq P ops.toList Qn r (QV a o.dst v) m'):=by
    rcases h with⟨v,m',U,h2⟩|h|⟨R,U,h2⟩
    ·exact .inl ⟨v,m',evOp_run hr ha U,h2⟩
    ·exact .inr h
    ·obtain⟨v,m',h3,h4⟩:=evAny_run hr ha U
     exact .inl ⟨v,m',h4,h2 v m' h3⟩
   rcases h with⟨v,m',U,h2⟩|⟨k,xs,R,U,he,a2,h2⟩
   ·obtain⟨v',w',κ,E,hv,O,I⟩:=U
    have Y:ARel m'.Has κ (QV a o.dst v) (act.put o.dst v'):=(ha.mono I.grows I.at_).put' o.dst hv
    have:=aOps_run hQ r _ _ h2 ι₀ m₀ w₀ κ _ w' (hs.trans I) Y O
    rcases E with E|⟨E,rfl⟩
    ·rw[E,Oper.upon_value];exact this
    ·rw[E,Oper.upon_skip];exact this
   ·obtain⟨ys,a6,Z⟩:=Vu ha U he
    rw[Z w,Oper.upon_enter]
    refine(a2 ι w ys a6 hr).mono ?_
    rintro e w' ⟨v,v',κ,m',hR,rfl,hv,O,I⟩
    have Y:ARel m'.Has κ (QV a o.dst v) (act.put o.dst v'):=(ha.mono I.grows I.at_).put' o.dst hv
    exact aOps_run hQ r _ _ (h2 v m' hR) ι₀ m₀ w₀ κ _ w' (hs.trans I) Y O
  ·rename_i hw
   rw[if_neg hw]
   exact aOps_run hQ r _ _ h ι₀ m₀ w₀ ι _ w hs (ha.put' o.dst Xt) hr
theorem AW_region{id:Nat}{ops:Array Oper}(h:Xq P ops.toList (Q .normal) ops.toList a m):AW P (.region id ops false) Q a m:=
 fun ι₀ m₀ w₀ ι act w hs ha hr=>wp_region_list (aOps_run (fun _ _ h=>h) ops.toList a m h ι₀ m₀ w₀ ι act w hs ha hr)
def aResult(P:Program)(a:List Value)(m:Mem):ResultVar→Option Value
 |.tmp t=>a[t]?
 |.cell p t=>match a[p]? with|some q=>UZ P m t q|none=>none
def U1(P:Program)(a:List Value)(m:Mem):List ResultVar→Option (List Value)
 | []=>some []
 |r::rs=>match aResult P a m r with
  |some v=>match U1 P a m rs with
   |some l=>some (v::l)
   |none=>none
  |none=>none
def ZJ(P:Program)(rs:List ResultVar)(a:List Value)(m:Mem):Option Value:=
 match U1 P a m rs with
 |some [v]=>some v
 |some l=>some (.tuple l.toArray)
 |none=>none
def resSem(tmps:Array Value):ResultVar→Sem Value
 |.tmp t=>pure (tmps.getD t undef)
 |.cell q t=>do loadVar t (←asAddr (tmps.getD q undef))
theorem results_eq(fn:Func)(tmps:Array Value):results fn tmps=(do let vs←fn.results.mapM (resSem tmps);pure (if h:vs.size=1 then vs[0]else .tuple vs)):=rfl
theorem Kz{ι:Nat→Loc}{w:World}{act:Act}(ha:ARel m.Has ι a act)(hr:Rel ι m w):∀(rs:List ResultVar)(l:List Value),U1 P a m rs=some l→
 ∃us:List Value,(rs.mapM (resSem act.tmps)).run P w=.ok us w∧VRels m.Has ι l us
 | [],l,h=>by
   cases h
   exact⟨[],by simp,.nil⟩
 |r::rs,l,h=>by
  simp only[U1]at h
  split at h<;>first|(cases h;done)|skip
  rename_i v hv
  split at h<;>first|(cases h;done)|skip
  rename_i l' hl
  cases h
  obtain⟨us,h1,h2⟩:=Kz ha hr rs l' hl
  cases r with
  |tmp t=>
   obtain⟨y,hy,hrel⟩:=ha.tmps.get hv
   have hy':act.tmps[t]?=some y:=by simpa using hy
   exact⟨y::us,by simp[List.mapM_cons,h1,resSem,hy'],.cons hrel h2⟩
  |cell p t=>
   simp only[aResult]at hv
   split at hv<;>first|(cases hv;done)|skip
   rename_i q hq
   obtain⟨y,hy,hrel⟩:=ha.tmps.get hq
   have hy':act.tmps[p]?=some y:=by simpa using hy
   obtain⟨v',hld,hvr⟩:=aLoad_run hr hv hrel
   unfold UZ at hv
   split at hv<;>first|(cases hv;done)|skip
   rename_i b o
   cases hrel
   have hld':(loadVar t ⟨(ι b).blk,(ι b).base+o,none⟩).run P w=.ok v' w:=by simpa[Instr.loadAt,Instr.sureAddr]using hld
   exact⟨v'::us,by simp[List.mapM_cons,h1,resSem,hy',asAddr,hld'],.cons hvr h2⟩
def ZY(fn:Func)(xs:List Value):List Value:=xs++List.replicate (fn.ntmps-xs.length) undef
end
end
section
variable {P : Program} {m : Mem} {a : List Value}
theorem aAnswer_run [Defs] {ι:Nat→Loc}{w:World}{act:Act}{fn:Func}{v:Value}(ha:ARel m.Has ι a act)(hr:Rel ι m w)(hv:ZJ P fn.results.toList a m=some v):∃v',(results fn act.tmps).run P w=.ok v' w∧VRel m.Has ι v v':=by
 unfold ZJ at hv
 have O:∀(E:List Value),(fn.results.toList.mapM (resSem act.tmps)).run P w=.ok E w→(results fn act.tmps).run P w=.ok (if Z:E.toArray.size=1 then E.toArray[0]else .tuple E.toArray) w:=by
  intro E Y
  rw[results_eq,Sem.run_bind,Array.mapM_eq_mapM_toList,Sem.run_map,Y]
  rfl
 split at hv<;>first|(cases hv;done)|skip
 ·rename_i v0 hl
  cases hv
  obtain⟨E,U,h2⟩:=Kz ha hr _ _ hl
  obtain⟨u,rfl,hu⟩:=h2.one'
  exact⟨u,by rw[O _ U];simp,hu⟩
 ·rename_i l hne hl
  cases hv
  obtain⟨E,U,h2⟩:=Kz ha hr _ _ hl
  refine⟨.tuple E.toArray,?_,.tuples (by simpa using h2)⟩
  rw[O _ U,dif_neg]
  intro Z
  have I:l.length=1:=by rw[h2.1];simpa using Z
  match l,I with
  | [x],_=>exact hne x rfl
theorem Spec.of{f:FuncId}{fn:Func}{c:Code}{xs:List Value}{R:Value→Mem→Prop}(hf:P.funcs[f]?=some fn)(hb:fn.body=some c)
 (h:AW P c (fun e a' m'=>(e=.ret∨e=.normal)∧∃v,ZJ P fn.results.toList a' m'=some v∧R v m') (ZY fn xs) m):Spec P f xs m R:=by
 intro ι w ys I hr
 refine calls_of_wp hf hb (wp_mono (h ι m w ι _ w (Step.refl _ _ _) ⟨rfl,?_⟩ hr) ?_)
 ·simp only[qM,Array.toList_replicate,List.size_toArray]
  rw[←I.1]
  unfold ZY
  refine VRels.append I ⟨rfl,fun i x y hx hy=>?_⟩
  rw[hx]at hy
  cases hy
  have:=qj hx
  rw[List.mem_replicate]at this
  rw[this.2]
  exact Xt
 ·rintro e Y w' ⟨κ,a',m',⟨he,v,hv,Z⟩,O,E,hs⟩
  obtain⟨v',U,h2⟩:=aAnswer_run O E hv
  rcases he with rfl|rfl
  ·exact⟨O.defers,v',U,v,v',κ,m',Z,rfl,h2,E,hs⟩
  ·exact⟨O.defers,v',U,v,v',κ,m',Z,rfl,h2,E,hs⟩
end
def befOne(acc:List Nat)(o:Oper):Nat:=o.after.toList.foldl (fun s e=>if Region.binds .any e then s|||(2^e.on|||(acc[e.on]?).getD 0)else s) 0
def befFrom:List Nat→List Oper→List Nat
 |acc,[]=>acc
 |acc,o::r=>befFrom (acc++[befOne acc o]) r
def befM(ops:List Oper):List Nat:=befFrom [] ops
theorem foldl_bits(f:Edge→Nat)(c:Edge→Bool):∀(l:List Edge)(s j:Nat),(l.foldl (fun s e=>if c e then s|||f e else s) s).testBit j=true→s.testBit j=true∨∃e∈l,c e=true∧(f e).testBit j=true
 | [],s,j,h=>.inl h
 |e::l,s,j,h=>by
  rw[qI]at h
  rcases foldl_bits f c l _ j h with h1|⟨e',h1,h2⟩
  ·split at h1
   ·rename_i hc
    rw[qE,qL]at h1
    rcases h1 with h1|h1
    ·exact .inl h1
    ·exact .inr ⟨e,qD,hc,h1⟩
   ·exact .inl h1
  ·exact .inr ⟨e',qA _ h1,h2⟩
theorem Ky:∀(l:List Oper)(acc:List Nat),∃r,befFrom acc l=acc++r∧r.length=l.length∧∀i o,l[i]?=some o→r[i]?=some (befOne (acc++r.take i) o)
 | [],acc=>⟨[],by simp[befFrom],rfl,fun i o h=>by simp at h⟩
 |o::l,acc=>by
  obtain⟨r,h1,h2,h3⟩:=Ky l (acc++[befOne acc o])
  refine⟨befOne acc o::r,by rw[befFrom,h1];simp,by simp[h2],fun i o' h=>?_⟩
  cases i with
  |zero=>simp at h;subst h;simp
  |succ i=>
   have:=h3 i o' (by simpa using h)
   simp only[qF,List.take_succ_cons]
   rw[this]
   simp
theorem befM_spec{l:List Oper}{k j:Nat}{o:Oper}(hk:l[k]?=some o)(hj:((befM l)[k]?.getD 0).testBit j=true):
 ∃e∈o.after.toList,Region.binds .any e=true∧(e.on=j∨(e.on<k∧((befM l)[e.on]?.getD 0).testBit j=true)):=by
 obtain⟨r,O,h2,E⟩:=Ky l []
 have hb:befM l=r:=by unfold befM;rw[O];simp
 rw[hb]at hj ⊢
 rw[E k o hk]at hj
 simp only[Option.getD_some,befOne,List.nil_append]at hj
 rcases foldl_bits _ _ _ _ _ hj with h|⟨e,I,hc,h⟩
 ·simp at h
 ·refine⟨e,I,hc,?_⟩
  rw[qE,qL]at h
  rcases h with h|h
  ·rw[Nat.testBit_two_pow]at h
   exact .inl (by simpa using h)
  ·rw[qi]at h
   split at h
   ·rename_i hlt;exact .inr ⟨hlt,h⟩
   ·simp at h
def Down(ops:Array Oper)(S:Nat→Bool):Prop:=∀k o,ops[k]?=some o→S k=true→∀e∈o.after,Region.binds .any e=true→S e.on=true
theorem Down.bef{ops:Array Oper}{S:Nat→Bool}(hd:Down ops S):∀(k:Nat)(o:Oper),ops[k]?=some o→(∀e∈o.after,Region.binds .any e=true→S e.on=true)→∀j,((befM ops.toList)[k]?.getD 0).testBit j=true→S j=true:=by
 intro k
 induction k using Nat.strongRecOn with
 |_ k ih=>
  intro o Y E j hj
  obtain⟨e,Z,hb,h⟩:=befM_spec (by simpa using Y) hj
  have O:e∈o.after:=by simpa using Z
  rcases h with rfl|⟨U,h⟩
  ·exact E e O hb
  ·have hS:=E e O hb
   have a6:k<ops.size:=(qo.1 Y).1
   have I:ops[e.on]?=some ops[e.on]:=qp (by omega)
   exact ih e.on U _ I (hd e.on _ I hS) j h
def XT(ops:List Oper):Bool:=ops.zipIdx.all fun p=>p.1.after.toList.all fun e=> !Region.binds .any e||decide (e.on<p.2)
def Xr(ops:Array Oper)(bs:List Nat):Nat→Bool
 |0=>true
 |k+1=>Xr ops bs k&&(qP k).all fun j=>((bs[k]?).getD 0).testBit j||(match ops[j]?,ops[k]? with
   |some x,some y=>x.apart ops y
   |_,_=>true)
def waitAll(bs:List Nat)(q n:Nat):Bool:=(qP n).all fun k=>decide (k<q)||(qP k).all fun j=>((bs[k]?).getD 0).testBit j
def Ql(ops:Array Oper)(q:Nat):Bool:=
 Region.noSelect ops&&XT ops.toList&&Xr ops (befM ops.toList) q&&waitAll (befM ops.toList) q ops.size
def Xy(ops:Array Oper)(q:Nat):Bool:=Region.noSelect ops&&XT ops.toList&&Xr ops (befM ops.toList) q
theorem QZ{ops:Array Oper}{q:Nat}(h:Ql ops q=true):Xy ops q=true:=by
 simp only[Ql,qm]at h
 simp only[Xy,qm]
 exact h.1
theorem Zj{ops:Array Oper}{q:Nat}(h:Xy ops (q+1)=true):Xy ops q=true:=by
 simp only[Xy,qm,Xr]at h
 simp only[Xy,qm]
 exact⟨h.1,h.2.1⟩
theorem XM{ops:Array Oper}(h:XT ops.toList=true){k:Nat}{o:Oper}(hk:ops[k]?=some o){e:Edge}(he:e∈o.after)(hb:Region.binds .any e=true):e.on<k:=by
 simp only[XT,qk]at h
 have E:(o,k)∈ops.toList.zipIdx:=by
  rw[List.mem_zipIdx_iff_getElem?]
  simpa using hk
 have:=h _ E e (by simpa using he)
 simp[hb]at this
 exact this
theorem Qr{ops:Array Oper}{bs:List Nat}:∀{q:Nat},Xr ops bs q=true→∀{j k:Nat}{x y:Oper},j<k→k<q→ops[j]?=some x→ops[k]?=some y→((bs[k]?).getD 0).testBit j=false→x.apart ops y=true
 |0,_,j,k,x,y,_,hk,_,_,_=>by omega
 |q+1,h,j,k,x,y,hjk,hk,hx,hy,hn=>by
  simp only[Xr,qm]at h
  by_cases e:k=q
  ·subst e
   have:=qk.1 h.2 j (List.mem_range.2 hjk)
   simp only[hn,Bool.false_or,hx,hy]at this
   exact this
  ·exact Qr h.1 hjk (by omega) hx hy hn
theorem Vs{bs:List Nat}{q n:Nat}(h:waitAll bs q n=true){j k:Nat}(hk:k<n)(hq:q≤k)(hj:j<k):((bs[k]?).getD 0).testBit j=true:=by
 have:=qk.1 h k (List.mem_range.2 hk)
 simp only[qL,decide_eq_true_eq]at this
 rcases this with E|E
 ·omega
 ·exact qk.1 E j (List.mem_range.2 hj)
theorem Us{a b:List Value}:∀(ps:List (Nat×Operand)),(∀p∈ps,JG a p.2=JG b p.2)→V7 a ps=V7 b ps
 | [],_=>rfl
 |(i,x)::r,h=>by
  simp only[V7,h (i,x) qD,Us r fun p hp=>h p (qA _ hp)]
theorem ZC{a b:List Value}:∀(xs:List Operand),(∀x∈xs,JG a x=JG b x)→ZS a xs=ZS b xs
 | [],_=>rfl
 |x::r,h=>by
  simp only[ZS,h x qD,ZC r fun p hp=>h p (qA _ hp)]
theorem evOpt_congr{a b:List Value}(x:Option Operand)(h:∀y,x=some y→JG a y=JG b y):evOpt a x=evOpt b x:=by
 cases x with
 |none=>rfl
 |some x=>simp only[evOpt,h x rfl]
theorem Zd(P:Program)(o:Op){a b:List Value}(m:Mem)(h:∀x∈o.operands,JG a x=JG b x):JD P o a m=JD P o b m:=by
 cases o<;>simp only[Op.operands]at h<;>simp only[JD]
 case build t ps=>rw[Us ps.toList fun p hp=>h p.2 (by simp;exact⟨p.1,by simpa using hp⟩)]
 case buildSlice t n ps=>rw[Us ps.toList fun p hp=>h p.2 (by simp;exact⟨p.1,by simpa using hp⟩)]
 case makeFunc fn fs cs=>
  cases fn<;>simp only[JD]
  rw[ZC fs.toList fun x hx=>h x (by simp at hx;simp[hx]),ZC cs.toList fun x hx=>h x (by simp at hx;simp[hx])]
 case slice t x lo hi mx=>
  cases mx<;>simp only[JD]
  rw[h x (by simp),evOpt_congr lo fun y hy=>h y (by simp[hy]),evOpt_congr hi fun y hy=>h y (by simp[hy])]
 case call c=>
  obtain⟨E,I,ts⟩:=c
  cases E<;>simp only[JD]
  rw[ZC I.toList fun x hx=>h x (by simp at hx;simp[Call.operands,hx])]
 case makeMap t r=>cases r<;>rfl
 case mapUpdate t x k y=>rw[h x (by simp),h k (by simp),h y (by simp)]
 case entry x=>rw[h x (by simp)]
 case lookup t x k ok=>rw[h x (by simp),h k (by simp)]
 case pick c x y=>rw[h c (by simp),h x (by simp),h y (by simp)]
 all_goals(first|rfl|(simp at h;simp[h];done)|(simp_all;done))
theorem evCallee_congr(o:Op){a b:List Value}(h:∀x∈o.operands,JG a x=JG b x):Xl a o=Xl b o:=by
 cases o<;>simp only[Xl]
 case call c=>
  obtain⟨E,I,ts⟩:=c
  cases E<;>simp only
  simp only[Op.operands]at h
  rw[h _ (by simp[Call.operands]),ZC I.toList fun x hx=>h x (by simp at hx;simp[Call.operands,hx])]
def still:Op→Bool
 |.move _=>true
 |.assign _=>true
 |.fieldAddr _ _ _=>true
 |.nilCheck _=>true
 |_=>false
theorem still_ev{P:Program}{o:Op}(hs:still o=true){a:List Value}{m m':Mem}{v:Value}(h:JD P o a m=some (v,m')):m'=m∧∀m2,JD P o a m2=some (v,m2):=by
 cases o<;>simp only[still]at hs<;>first|(cases hs;done)|skip
 all_goals
  simp only[JD,QI]at h ⊢
  split at h<;>first|(cases h;done)|skip
 all_goals first
  |(simp only[Option.some.injEq,Prod.mk.injEq]at h
    obtain⟨rfl,rfl⟩:=h
    refine⟨rfl,fun m2=>?_⟩
    simp only[*])
  |(split at h<;>first|(cases h;done)|skip
    simp only[Option.some.injEq,Prod.mk.injEq]at h
    obtain⟨rfl,rfl⟩:=h
    refine⟨rfl,fun m2=>?_⟩
    simp only[*])
def noCall:Op→Bool
 |.call c=>match c.callee with
  |.value _=>false
  |_=>true
 |.next _ _=>false
 |_=>true
theorem noAny_ev{o:Op}(h:noCall o=true)(a:List Value)(m:Mem):evAny o a m=none:=by
 cases o<;>first|rfl|(cases h;done)
theorem noCall_ev{o:Op}(h:noCall o=true)(a:List Value):Xl a o=none:=by
 cases o<;>try rfl
 rename_i c
 obtain⟨E,I,ts⟩:=c
 cases E<;>first|rfl|(cases h;done)
section
variable [Defs]
def Cl(p:Nat→Prop)(v:Value):Prop:=∃κ v',VRel p κ v v'
theorem Cl.rel{p:Nat→Prop}{v:Value}(h:Cl p v){q:Nat→Prop}{ι:Nat→Loc}{u:Value}(hr:VRel q ι v u):VRel p ι v u:=by
 obtain⟨κ,v',h⟩:=h
 induction h generalizing u with
 |ptr b o h=>cases hr;exact .ptr b o h
 |slice b o len cap cap' h hl hc=>cases hr with
  |slice _ _ _ _ c2 h2 hl2 hc2=>exact .slice b o len cap c2 h hl2 hc2
  |empty _ _ o' h2=>exact .empty b o o' h
 |map b h=>cases hr;exact .map b h
 |empty b o o' h=>cases hr with
  |slice _ _ _ _ c2 h2 hl2 hc2=>exact .slice b o 0 0 c2 h hl2 hc2
  |empty _ _ o'' h2=>exact .empty b o o'' h
 |agg xs ys hs _ ih=>
  obtain⟨I,rfl,E⟩:=hr.agg_inv
  refine .agg xs I (by simpa using E.1) fun i x y hx hy=>?_
  have hi:i<ys.size:=by rw[←hs];exact(qo.1 hx).1
  exact ih i x _ hx (qp hi) (E.2 i x y (by simpa using hx) (by simpa using hy))
 |tuple xs ys hs _ ih=>
  obtain⟨I,rfl,E⟩:=hr.tuple_inv
  refine .tuple xs I (by simpa using E.1) fun i x y hx hy=>?_
  have hi:i<ys.size:=by rw[←hs];exact(qo.1 hx).1
  exact ih i x _ hx (qp hi) (E.2 i x y (by simpa using hx) (by simpa using hy))
 |iface t x y _ ih=>cases hr with|iface _ _ z hz=>exact .iface t x z (ih hz)
 |func f xs ys zs ws hs _ hs2 _ ih ih2=>cases hr with
  |func _ _ ys' _ ws' hs' hh' hs2' hh2'=>
   refine .func f xs ys' zs ws' hs' (fun i x y hx hy=>?_) hs2' (fun i x y hx hy=>?_)
   ·have hi:i<ys.size:=by rw[←hs];exact(qo.1 hx).1
    exact ih i x _ hx (qp hi) (hh' i x y hx hy)
   ·have hi:i<ws.size:=by rw[←hs2];exact(qo.1 hx).1
    exact ih2 i x _ hx (qp hi) (hh2' i x y hx hy)
 |junk y h=>cases hr with|junk _ h=>exact .junk _ h
 |bool|int|float|complex|string|nilPtr|nilSlice|nilFunc|nilIface|nilMap=>cases hr<;>constructor
theorem VRel.cl{p:Nat→Prop}{ι:Nat→Loc}{v u:Value}(h:VRel p ι v u):Cl p v:=⟨ι,u,h⟩
theorem Cl.mono{p q:Nat→Prop}{v:Value}(h:Cl p v)(hq:∀b,p b→q b):Cl q v:=by
 obtain⟨κ,v',h⟩:=h
 exact⟨κ,v',h.mono hq fun _ _=>rfl⟩
def ClBlk(p:Nat→Prop):Blk→Prop
 |.cells _ _ cs=>∀c∈cs,Cl p c
 |.kv .. =>True
 |.it _ b _ _ _=>p b
 |.raw .. =>True
theorem ClBlk.mono{p q:Nat→Prop}{x:Blk}(h:ClBlk p x)(hq:∀b,p b→q b):ClBlk q x:=by
 cases x with
 |cells ro s cs=>exact fun c hc=>(h c hc).mono hq
 |kv=>trivial
 |raw=>trivial
 |it ro b=>exact hq b h
theorem Rel.clBlk{ι:Nat→Loc}{m:Mem}{w:World}(h:Rel ι m w):∀b x,m.get b=some x→ClBlk m.Has x:=fun b x hb=>by
 cases x with
 |cells ro s cs=>
  intro c hc
  obtain⟨C,e,fz,k1,k2,k3,k4,k5,k6⟩:=h.at' b ro s cs hb
  obtain⟨p,hp,hcp⟩:=qx hc
  obtain⟨_,v',_,hrel⟩:=k5 p c (by rw[qd hp,hcp])
  exact hrel.cl
 |kv=>trivial
 |raw=>trivial
 |it ro b' s seen l=>exact(h.oth b _ hb).2.2
def OpSim(P:Program)(o:Oper)(a:List Value)(m:Mem)(R:Value→Mem→Prop):Prop:=
 ∀(b:List Value)(ι:Nat→Loc)(act act2:Act)(w:World)(K:Act→World→Prop)(Q:Exit→Act→World→Prop),(∀x∈o.op.operands,JG a x=JG b x)→ARel m.Has ι b act→Rel ι m w→execOp act2.eval o=execOp act.eval o→
  (∀v m' v' w' κ,R v m'→VRel m'.Has κ v v'→Rel κ m' w'→Step ι m w κ m' w'→K (act2.put o.dst v') w')→o.wp P act2 w K Q
def OpOK(P:Program)(o:Oper)(a:List Value)(m:Mem)(v:Value)(m':Mem):Prop:=OpSim P o a m fun u m''=>u=v∧m''=m'
theorem OpSim.op{P:Program}{o:Oper}{a:List Value}{m m':Mem}{v:Value}{R:Value→Mem→Prop}(h:JD P o.op a m=some (v,m'))(hR:R v m'):OpSim P o a m R:=by
 intro b ι act Z w K Q U ha hr he Y
 rw[Zd P o.op m U]at h
 unfold Oper.wp
 rw[he]
 obtain⟨v',w',κ,E,hv,I,O⟩:=evOp_run hr ha h
 rcases E with E|⟨E,rfl⟩
 ·rw[E,Oper.upon_value];exact Y _ _ _ _ κ hR hv I O
 ·rw[E,Oper.upon_skip];exact Y _ _ _ _ κ hR hv I O
theorem OpSim.call{P:Program}{o:Oper}{a:List Value}{m:Mem}{R:Value→Mem→Prop}{k:FuncId}{xs:List Value}(h1:Xl a o.op=some (k,xs))(he:Qg P k=true)(hsp:Spec P k xs m R):OpSim P o a m R:=by
 intro b ι act a2 w K Q O ha hr Z hK
 rw[evCallee_congr o.op O]at h1
 unfold Oper.wp
 rw[Z]
 obtain⟨ys,Y,E⟩:=Vu ha h1 he
 rw[E w,Oper.upon_enter]
 refine(hsp ι w ys Y hr).mono ?_
 rintro e w' ⟨v1,v',κ,m1,hR,rfl,hv,I,U⟩
 exact hK _ _ _ _ κ hR hv I U
def Jd(ops:Array Oper)(v:Nat→Value)(S:Nat→Bool)(a:List Value):Nat→List Value
 |0=>a
 |k+1=>if S k then QV (Jd ops v S a k) ((ops[k]?).bind (·.dst)) (v k)else Jd ops v S a k
theorem aPut_get(a:List Value)(d:Option Nat)(v:Value)(t:Nat)(h:d≠some t):(QV a d v)[t]?=a[t]?:=by
 cases d with
 |none=>rfl
 |some u=>
  simp only[QV]
  rw[List.getElem?_set_ne]
  intro e;exact h (by rw[e])
theorem aPut_length(a:List Value)(d:Option Nat)(v:Value):(QV a d v).length=a.length:=by cases d<;>simp[QV]
theorem aPut_comm(a:List Value)(d e:Option Nat)(v u:Value)(h:∀t,d=some t→e≠some t):QV (QV a d v) e u=QV (QV a e u) d v:=by
 cases d with
 |none=>rfl
 |some t=>cases e with
  |none=>rfl
  |some s=>
   simp only[QV]
   rw[List.set_comm]
   intro E;exact h t rfl (by rw[E])
theorem frameAt_add{ops:Array Oper}{v:Nat→Value}{S:Nat→Bool}{a:List Value}{i:Nat}(hS:S i=false):∀n,i<n→
 (∀k,i<k→k<n→S k=true→∀t,(ops[i]?).bind (·.dst)=some t→(ops[k]?).bind (·.dst)≠some t)→
 Jd ops v (fun k=>S k||k==i) a n=QV (Jd ops v S a n) ((ops[i]?).bind (·.dst)) (v i):=by
 have low:∀n,n≤i→Jd ops v (fun k=>S k||k==i) a n=Jd ops v S a n:=by
  intro n
  induction n with
  |zero=>intro _;rfl
  |succ n ih=>
   intro h
   have E:(n==i)=false:=by simp;omega
   simp only[Jd,E,Bool.or_false,ih (by omega)]
 intro n
 induction n with
 |zero=>intro h;omega
 |succ n ih=>
  intro h I
  by_cases e:n=i
  ·subst e
   simp only[Jd,hS,beq_self_eq_true,Bool.or_true,if_true,qC,if_false]
   rw[low n (qe _)]
  ·have E:(n==i)=false:=by simp;omega
   simp only[Jd,E,Bool.or_false]
   rw[ih (by omega) fun k h1 h2=>I k h1 (by omega)]
   split
   ·rename_i hSn
    exact aPut_comm _ _ _ _ _ (I n (by omega) (by omega) hSn)
   ·rfl
theorem Q6{ops:Array Oper}{v:Nat→Value}{S T:Nat→Bool}{a:List Value}(t:Nat):∀n,(∀k,k<n→(ops[k]?).bind (·.dst)=some t→S k=T k)→(Jd ops v S a n)[t]?=(Jd ops v T a n)[t]?
 |0,_=>rfl
 |n+1,h=>by
  have ih:=Q6 (v:=v) (a:=a) t n fun k hk=>h k (by omega)
  by_cases hd:(ops[n]?).bind (·.dst)=some t
  ·have:=h n (by omega) hd
   simp only[Jd,this]
   split
   ·rw[hd]
    simp only[QV]
    rw[List.getElem?_set,List.getElem?_set]
    have hl:∀(U:Nat→Bool)(k:Nat),(Jd ops v U a k).length=a.length:=by
     intro U k
     induction k with
     |zero=>rfl
     |succ k ih=>simp only[Jd];split<;>simp[aPut_length,ih]
    simp only[if_true,hl]
   ·exact ih
  ·simp only[Jd]
   split<;>split<;>simp only[aPut_get _ _ _ _ hd,ih]
theorem ZA{ops:Array Oper}{v:Nat→Value}{S:Nat→Bool}{a:List Value}{i:Nat}:∀n,i≤n→(∀k,i≤k→k<n→S k=false)→Jd ops v S a n=Jd ops v S a i
 |0,h,_=>by
  have:i=0:=by omega
  rw[this]
 |n+1,h,hk=>by
  by_cases e:i=n+1
  ·rw[e]
  ·simp only[Jd,hk n (by omega) (by omega)]
   exact ZA n (by omega) fun k h1 h2=>hk k h1 (by omega)
def Q8(N:Nat→List (Option Blk))(S:Nat→Bool):Nat→List (Option (Option Blk))
 |0=>[]
 |k+1=>Q8 N S k++(N k).map fun x=>if S k then some x else none
def Js(m:Mem)(N:Nat→List (Option Blk))(S:Nat→Bool)(n:Nat):Mem:=⟨m.blks++Q8 N S n⟩
def Mem.app(m:Mem)(l:List (Option Blk)):Mem:=⟨m.blks++l.map some⟩
theorem Un(N:Nat→List (Option Blk))(S T:Nat→Bool):∀n,(Q8 N S n).length=(Q8 N T n).length
 |0=>rfl
 |n+1=>by simp[Q8,Un N S T n]
end
theorem foldl_bits_back(f:Edge→Nat)(c:Edge→Bool):∀(l:List Edge)(s j:Nat),(s.testBit j=true∨∃e∈l,c e=true∧(f e).testBit j=true)→(l.foldl (fun s e=>if c e then s|||f e else s) s).testBit j=true
 | [],s,j,h=>by
   rcases h with h|⟨e,he,_⟩
   ·exact h
   ·cases he
 |e::l,s,j,h=>by
  rw[qI]
  refine foldl_bits_back f c l _ j ?_
  rcases h with h|⟨e',he,hc,hb⟩
  ·left
   split
   ·rw[qE,h];rfl
   ·exact h
  ·rcases List.mem_cons.1 he with rfl|he
   ·left
    rw[if_pos hc,qE,hb,Bool.or_true]
   ·exact .inr ⟨e',he,hc,hb⟩
theorem befM_back{l:List Oper}{k j:Nat}{o:Oper}(hk:l[k]?=some o){e:Edge}(he:e∈o.after.toList)(hb:Region.binds .any e=true)(hlt:e.on<k)(hj:e.on=j∨((befM l)[e.on]?.getD 0).testBit j=true):
 ((befM l)[k]?.getD 0).testBit j=true:=by
 obtain⟨r,O,h2,I⟩:=Ky l []
 have E:befM l=r:=by unfold befM;rw[O];simp
 rw[E]at hj ⊢
 rw[I k o hk]
 simp only[Option.getD_some,befOne,List.nil_append]
 refine foldl_bits_back _ _ _ _ _ (.inr ⟨e,he,hb,?_⟩)
 rw[qE,qL]
 rcases hj with rfl|hj
 ·left;rw[Nat.testBit_two_pow];simp
 ·right
  rw[qi,if_pos hlt]
  exact hj
section
variable {ops : Array Oper}
def B(ops:Array Oper)(i j:Nat):Bool:=((befM ops.toList)[i]?.getD 0).testBit j
theorem B_trans(he:XT ops.toList=true):∀{i j k:Nat},i<ops.size→B ops i j=true→B ops j k=true→B ops i k=true:=by
 intro i
 induction i using Nat.strongRecOn with
 |_ i ih=>
  intro j k hi h Z
  have Y:ops[i]?=some ops[i]:=qp hi
  have E:ops.toList[i]?=some ops[i]:=by rw[qc];exact Y
  obtain⟨e,U,h2,O⟩:=befM_spec E h
  have I:=XM he Y (by simpa using U) h2
  rcases O with rfl|⟨O,h4⟩
  ·exact befM_back E U h2 I (.inr Z)
  ·exact befM_back E U h2 I (.inr (ih e.on O (by omega) h4 Z))
end
section
variable {m : Mem} {N : Nat → List (Option Blk)}
def off(N:Nat→List (Option Blk))(k:Nat):Nat:=(Q8 N (fun _=>true) k).length
theorem newsAt_len(S:Nat→Bool)(k:Nat):(Q8 N S k).length=off N k:=Un N S _ k
theorem off_succ(k:Nat):off N (k+1)=off N k+(N k).length:=by simp[off,Q8]
theorem off_mono{j k:Nat}(h:j≤k):off N j≤off N k:=by
 induction k with
 |zero=>
  have:j=0:=by omega
  rw[this];exact qe _
 |succ k ih=>
  by_cases e:j=k+1
  ·rw[e];exact qe _
  ·have:=ih (by omega)
   rw[off_succ]
   omega
def IsNew(m:Mem)(N:Nat→List (Option Blk))(k b:Nat):Prop:=m.size+off N k≤b∧b<m.size+off N k+(N k).length
theorem IsNew.unique{j k b:Nat}(h:IsNew m N j b)(h':IsNew m N k b):j=k:=by
 obtain⟨Y,h2⟩:=h
 obtain⟨U,Z⟩:=h'
 rcases Nat.lt_trichotomy j k with O|E|I
 ·have:=off_mono (N:=N) (show j+1≤k by omega)
  rw[off_succ]at this
  omega
 ·exact E
 ·have:=off_mono (N:=N) (show k+1≤j by omega)
  rw[off_succ]at this
  omega
theorem newsAt_get(S:Nat→Bool):∀(n p:Nat)(o:Option Blk),(Q8 N S n)[p]?=some (some o)↔∃k,k<n∧S k=true∧off N k≤p∧(N k)[p-off N k]?=some o
 |0,p,o=>by
  constructor
  ·intro h;simp[Q8]at h
  ·rintro⟨k,hk,_⟩;omega
 |n+1,p,o=>by
  simp only[Q8]
  rw[qJ,newsAt_len]
  split
  ·rename_i hlt
   rw[newsAt_get S n p o]
   constructor
   ·rintro⟨k,h1,h2⟩;exact⟨k,by omega,h2⟩
   ·rintro⟨k,h1,h2,h3,h4⟩
    refine⟨k,?_,h2,h3,h4⟩
    rcases Nat.lt_succ_iff_lt_or_eq.1 h1 with h|h
    ·exact h
    ·subst h;omega
  ·rename_i hge
   rw[qw,qy]
   constructor
   ·rintro⟨x,h1,h2⟩
    split at h2
    ·rename_i hS
     exact⟨n,by omega,hS,by omega,by rw[h1,Option.some.inj h2]⟩
    ·cases h2
   ·rintro⟨k,h1,h2,h3,h4⟩
    have hp:=(qv.1 h4).1
    have e:k=n:=by
     rcases Nat.lt_succ_iff_lt_or_eq.1 h1 with h|h
     ·have:=off_mono (N:=N) (show k+1≤n by omega)
      rw[off_succ]at this
      omega
     ·exact h
    subst e
    exact⟨o,h4,by rw[if_pos h2]⟩
theorem Kh(S:Nat→Bool)(n b:Nat)(o:Option Blk):(Js m N S n).blks[b]?=some (some o)↔(b<m.size∧m.blks[b]?=some (some o))∨∃k,k<n∧S k=true∧m.size+off N k≤b∧(N k)[b-(m.size+off N k)]?=some o:=by
 unfold Js
 simp only
 rw[qJ]
 show(if b<m.size then m.blks[b]? else(Q8 N S n)[b-m.size]?)=_↔_
 split
 ·rename_i h
  constructor
  ·exact fun E=>.inl ⟨h,E⟩
  ·rintro(⟨_,E⟩|⟨k,_,_,I,_⟩)
   ·exact E
   ·omega
 ·rename_i h
  rw[newsAt_get]
  constructor
  ·rintro⟨k,I,h2,U,O⟩
   exact .inr ⟨k,I,h2,by omega,by rw[show b-(m.size+off N k)=b-m.size-off N k by omega];exact O⟩
  ·rintro(⟨E,_⟩|⟨k,I,h2,U,O⟩)
   ·exact absurd E h
   ·exact⟨k,I,h2,by omega,by rw[show b-m.size-off N k=b-(m.size+off N k) by omega];exact O⟩
theorem get_iff(m:Mem)(b:Nat)(x:Blk):m.get b=some x↔m.blks[b]?=some (some (some x)):=by
 constructor
 ·exact Mem.get_some
 ·intro h;unfold Mem.get;rw[h]
theorem QX(S:Nat→Bool)(n b:Nat)(x:Blk):(Js m N S n).get b=some x↔(b<m.size∧m.get b=some x)∨∃k,k<n∧S k=true∧m.size+off N k≤b∧(N k)[b-(m.size+off N k)]?=some (some x):=by
 rw[get_iff,Kh,get_iff]
theorem JI(S:Nat→Bool)(n b:Nat):(Js m N S n).Has b↔m.Has b∨∃k,k<n∧S k=true∧IsNew m N k b:=by
 constructor
 ·rintro⟨o,E⟩
  rcases(Kh S n b o).1 E with⟨_,h⟩|⟨k,O,h2,I,Y⟩
  ·exact .inl ⟨o,h⟩
  ·have:=(qv.1 Y).1
   exact .inr ⟨k,O,h2,I,by omega⟩
 ·rintro(h|⟨k,O,h2,I,Y⟩)
  ·have hl:=Mem.has_lt h
   obtain⟨o,E⟩:=h
   exact⟨o,(Kh S n b o).2 (.inl ⟨hl,E⟩)⟩
  ·have U:b-(m.size+off N k)<(N k).length:=by omega
   exact⟨(N k)[b-(m.size+off N k)],(Kh S n b _).2 (.inr ⟨k,O,h2,I,qd U⟩)⟩
theorem new_has{k b:Nat}(hb:IsNew m N k b):¬m.Has b:=fun h=>by
 have:=Mem.has_lt h
 have:=hb.1
 omega
theorem Zs{S T:Nat→Bool}:∀n,(∀k,k<n→S k=T k)→Q8 N S n=Q8 N T n
 |0,_=>rfl
 |n+1,h=>by simp only[Q8,Zs n fun k hk=>h k (by omega),h n (by omega)]
theorem memAt_own(S:Nat→Bool)(i:Nat):(Js m N S i).app (N i)=Js m N (fun k=>S k||k==i) (i+1):=by
 unfold Js Mem.app
 simp only[Q8,beq_self_eq_true,Bool.or_true,if_true]
 rw[Zs (S:=fun k=>S k||k==i) (T:=S) i fun k hk=>by
  have:(k==i)=false:=by simp;omega
  simp[this]]
 rw[List.append_assoc]
end
def maskL(f:Nat→Bool)(l:List Value):List Value:=l.zipIdx.map fun p=>if f p.2 then p.1 else undef
theorem maskL_get(f:Nat→Bool)(l:List Value)(t:Nat):(maskL f l)[t]?=(l[t]?).map fun x=>if f t then x else undef:=by
 unfold maskL
 rw[qw,List.getElem?_zipIdx]
 cases l[t]?<;>simp
theorem maskL_length(f:Nat→Bool)(l:List Value):(maskL f l).length=l.length:=by simp[maskL]
end Go.Proofs.YthohbneadomgdaaGreatDoor.Abs
