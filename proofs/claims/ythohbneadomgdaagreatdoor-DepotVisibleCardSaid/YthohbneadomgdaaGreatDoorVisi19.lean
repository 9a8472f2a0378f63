import Derived.Test.YthohbneadomgdaaGreatDoorVisi18
import Derived.Test.YthohbneadomgdaaGreatDoorVisi01
import Derived.Test.YthohbneadomgdaaGreatDoorVisi13
import Derived.Test.YthohbneadomgdaaGreatDoorVisi15
import Derived.Test.YthohbneadomgdaaGreatDoorVisi10
import Derived.Test.YthohbneadomgdaaGreatDoorVisi03
import Derived.Test.YthohbneadomgdaaGreatDoorVisi14
import Derived.Test.YthohbneadomgdaaGreatDoorVisi09
set_option linter.all false
set_option maxRecDepth 100000
set_option maxHeartbeats 16000000
open Nat renaming reduceLT→yQ,reduceEqDiff→yK,reduceAdd→yV,reduceSub→yY,reduceMul→yU
open Int renaming reduceToNat→yW,reduceLE→yX,reduceEq→yZ,reduceLT→yJ
open Go.Proofs.Tryz renaming prog→qc,underlying172→qx
open List renaming length_append→qd,getElem?_cons_succ→qf,getElem?_cons_zero→qh,getElem?_eq_getElem→qj,length_map→qk,length_nil→qm,replicate→qo,take_of_length_le→qp,range→qq,length_cons→qt,range_succ→qu,getElem?_map→qv,length_take→qw,mem_of_getElem?→qA,map_append→qB,mem_map→qC
open Int renaming toNat_natCast→qe,toNat_zero→qD,toNat_one→qE
open UInt8 renaming toNat_lt→qi
open Nat renaming le_refl→qy
open Array renaming length_toList→qF
namespace Go.Proofs.YthohbneadomgdaaGreatDoor
open Go.RowKit Abs
theorem rsum_at(M:Mem)(s:ByteArray)(hs:s.size≤140737488355200):Abs.Spec qc 205 [.string s] M fun u M'=>u=.string (str (Sha.sum s.data.toList))∧M'=M:=
 Abs.Spec.of_empty (by simp[flat]) rfl ((rsum_spec ⟨[]⟩ s hs).mono fun v m' h=>h.1) M
theorem xor_byte(b c:UInt8):Value.int .u8 (bits .xor .i64 (b.toNat:Int) (c.toNat:Int)%256)=JB (b^^^c):=by
 have hb:=qi b
 have hc:=qi c
 unfold JB
 congr 1
 rw[XK _ _ (by omega) (by omega),UInt8.toNat_xor]
 have:b.toNat^^^c.toNat<2^8:=Nat.xor_lt_two_pow hb hc
 omega
theorem rturned_spec(m:Mem)(k:ByteArray)(c:UInt8)(hk:k.size≤140737488355200):
 Abs.Spec qc 206 [.string k,.int .i64 (c.toNat:Int)] m fun v m'=>v=.string (str (Sha.pad k.data.toList c)):=by
 obtain⟨q,hq⟩:∃q,q=k.data.toList:=⟨_,rfl⟩
 have ay:q.length=k.size:=by rw[hq,qF];rfl
 have ah:JC k=q.length:=by rw[hq];rfl
 obtain⟨key,Y⟩:∃key,key=if 64<q.length then Sha.sum q else q:=⟨_,rfl⟩
 have au:key.length≤64:=by
  rw[Y];split
  ·rw[Sha.sum_length];decide
  ·omega
 have ai:Sha.pad k.data.toList c=(key++qo (64-key.length) 0).map (·^^^c):=by rw[←hq,Sha.pad,Sha.key64,←Y]
 rw[ai]
 refine Abs.Spec.walk Tryz.func206 (by rfl) _ Tryz.results206 _ Tryz.ntmps206 (by simp) ?_
 refine J4 (J2 ?_)
 simp only[zS,reduceIte,yQ,yW,yX,yZ,yJ,yK,yV]
 refine J4 (J2 ?_)
 simp only[zS,reduceIte,yQ,yW,yX,yZ,yJ,yK,yV,zT,new_bytes k (by rw[ZV];omega),ah,←hq]
 refine SW_mid [1,5] (fun f M=>∃v,f=[(1,.int .i64 (c.toNat:Int)),(5,v)]∧Sl M v (J5 key)∧Grows m M∧(∀g l c,v=.slice (some ⟨g,0,none⟩) l c→m.size≤g)) ?_ ?_
 ·refine J4 (J2 ?_)
  simp only[zS,reduceIte,yQ,yW,yX,yZ,yJ,yK,yV,zT,ah]
  refine Q2 (decide ((q.length:Int)>64)) (by rfl) (fun hc=>J2 ?_) (fun hc=>Q5 ?_)
  ·simp only[zS,reduceIte,yQ,yW,yX,yZ,yJ,yK,yV,zT]
   refine⟨by kernel_rfl,_,rsum_at _ k hk,?_⟩
   rintro _ M1 ⟨rfl,hM⟩
   rw[hM]
   clear hM
   have ak:64<q.length:=by have:=of_decide_eq_true hc;omega
   have e:key=Sha.sum q:=by rw[Y,if_pos ak]
   simp only[zS,reduceIte,yQ,yW,yX,yZ,yJ,yK,yV,zT,Uo key (by omega),Zl,←hq,←e]
   refine⟨_,rfl,Sl.block (by simp[J5]) (Mem.get_push_new _ _),((Grows.refl m).push _).push _,fun g l c e=>?_⟩
   cases e;simp
  ·simp only[zS,reduceIte,yQ,yW,yX,yZ,yJ,yK,yV]
   have ap:¬64<q.length:=by have:=of_decide_eq_false hc;omega
   have e:key=q:=by rw[Y,if_neg ap]
   rw[e]
   refine⟨_,rfl,Sl.block (by simp[J5]) (Mem.get_push_new _ _),(Grows.refl m).push _,fun g l c e=>?_⟩
   cases e;simp
 ·rintro f M ⟨v,rfl,hv,Z,I⟩
  refine J4 (Jv (Qy [1,5] (fun n f M=>∃(j:Nat)(v:Value),key.length+j+n=64∧f=[(1,.int .i64 (c.toNat:Int)),(5,v)]∧Sl M v (J5 (key++qo j 0))∧Grows m M∧(∀g l c,v=.slice (some ⟨g,0,none⟩) l c→m.size≤g)) (64-key.length) ?_ ?_))
  ·simp only[zS,reduceIte,yQ,yW,yX,yZ,yJ,yK,yV]
   exact⟨0,_,by omega,rfl,by simpa using hv,Z,I⟩
  ·clear hv Z I
   rintro n f M ⟨j,v,hj,rfl,hv,Z,I⟩
   have a2:(J5 (key++qo j 0)).length=key.length+j:=by simp[J5]
   have ab:=hv
   rcases hv with⟨rfl,h0⟩|⟨g,ad,hg⟩
   ·have:=congrArg List.length h0
    rw[a2]at this
    have aA:key.length+j=0:=by simpa using this
    refine J4 (J4 (J2 ?_))
    simp only[zS,reduceIte,yQ,yW,yX,yZ,yJ,yK,yV,zT]
    obtain⟨s',m2,E,a7,a6,O⟩:=ab.app_u8 Z I (JB 0) (by rw[a2];omega)
    have e3:J5 (key++qo j 0)++[JB 0]=J5 (key++qo (j+1) 0):=by simp[J5,List.replicate_succ']
    rw[e3]at a7
    replace E:JT qc (M.push (.cells false 1 [.int .u8 0])) 172 172 (.slice none 0 0) (.slice (some ⟨M.size,0,none⟩) 1 1)=some (s',m2):=E
    refine Q2 (decide (((0:Nat):Int)<64)) (by rfl) (fun hc=>Q5 ?_) (fun hc=>absurd hc (by decide))
    simp only[zS,reduceIte,yQ,yW,yX,yZ,yJ,yK,yV]
    refine Jv (J2 ?_)
    simp only[zS,reduceIte,yQ,yW,yX,yZ,yJ,yK,yV,zT,E]
    exact⟨n-1,⟨j+1,s',by omega,rfl,a7,a6,O⟩,by omega⟩
   ·rw[a2]at ad
    subst ad
    refine J4 (J4 (J2 ?_))
    simp only[zS,reduceIte,yQ,yW,yX,yZ,yJ,yK,yV,zT]
    refine Q2 (decide (((key.length+j:Nat):Int)<64)) (by rfl) (fun hc=>Q5 ?_) (fun hc=>QF ?_)
    ·simp only[zS,reduceIte,yQ,yW,yX,yZ,yJ,yK,yV]
     have av:=of_decide_eq_true hc
     obtain⟨s',m2,E,a7,a6,O⟩:=ab.app_u8 Z I (JB 0) (by rw[a2];omega)
     have e3:J5 (key++qo j 0)++[JB 0]=J5 (key++qo (j+1) 0):=by simp[J5,List.replicate_succ']
     rw[e3]at a7
     replace E:JT qc (M.push (.cells false 1 [.int .u8 0])) 172 172 (.slice (some ⟨g,0,none⟩) (key.length+j) (key.length+j)) (.slice (some ⟨M.size,0,none⟩) 1 1)=some (s',m2):=E
     refine Jv (J2 ?_)
     simp only[zS,reduceIte,yQ,yW,yX,yZ,yJ,yK,yV,zT,E]
     exact⟨n-1,⟨j+1,s',by omega,rfl,a7,a6,O⟩,by omega⟩
    ·simp only[zS,reduceIte,yQ,yW,yX,yZ,yJ,yK,yV]
     have ao:j=64-key.length:=by have:=of_decide_eq_false hc;omega
     obtain⟨p,hp⟩:∃p,p=key++qo j 0:=⟨_,rfl⟩
     have ax:p.length=64:=by rw[hp,qd,List.length_replicate];omega
     rw[←hp]at hg
     rw[←ao,←hp,show key.length+j=64 by omega]
     refine J4 (J4 (J2 ?_))
     simp only[zS,reduceIte,yQ,yW,yX,yZ,yJ,yK,yV]
     refine Jv (Qy [1,5,6] (fun n f M=>∃t:Nat,t+n=64∧f=[(1,.int .i64 (c.toNat:Int)),(5,.slice (some ⟨g,0,none⟩) 64 64),(6,.int .i64 (t:Int))]∧M.get g=some (.cells false 1 (J5 ((p.map (·^^^c)).take t++p.drop t)))) 64 ?_ ?_)
     ·simp only[zS,reduceIte,yQ,yW,yX,yZ,yJ,yK,yV]
      exact⟨0,rfl,rfl,by simpa using hg⟩
     ·clear hg ab Z I
      rintro n f M ⟨t,ht,rfl,hg⟩
      refine J4 (J4 (J2 ?_))
      simp only[zS,reduceIte,yQ,yW,yX,yZ,yJ,yK,yV,zT]
      refine Q2 (decide ((t:Int)<64)) (by rfl) (fun hc=>Q5 ?_) (fun hc=>QF ?_)
      ·simp only[zS,reduceIte,yQ,yW,yX,yZ,yJ,yK,yV]
       have aa:t<64:=by have:=of_decide_eq_true hc;omega
       have xi:IntKind.i64.wrap ((t:Int)+1)=((t+1:Nat):Int):=by rw[wr (by omega) (by omega)];omega
       obtain⟨b,hb⟩:∃b,p[t]?=some b:=⟨p[t]'(by omega),qj (by omega)⟩
       have a2:=qi b
       have aj:(J5 ((p.map (·^^^c)).take t++p.drop t))[t]?=some (.int .u8 (b.toNat:Int)):=by
        rw[J5,qv,List.getElem?_append_right (by simp;omega),List.getElem?_drop,show t+(t-((p.map (·^^^c)).take t).length)=t by simp;omega,hb]
        rfl
       have xb:IntKind.i64.wrap (b.toNat:Int)=(b.toNat:Int):=wr (by omega) (by omega)
       have U:=store_u8 hg (i:=t) (by simp[J5];omega) (bits .xor .i64 (b.toNat:Int) (c.toNat:Int)%256)
       have ae:(J5 ((p.map (·^^^c)).take t++p.drop t)).set t (.int .u8 (bits .xor .i64 (b.toNat:Int) (c.toNat:Int)%256))=J5 ((p.map (·^^^c)).take (t+1)++p.drop (t+1)):=by
        rw[xor_byte]
        unfold J5
        rw[←List.map_set,List.set_append_right _ _ (by simp;omega),show t-((p.map (·^^^c)).take t).length=0 by simp;omega,List.take_add_one,qv,hb]
        have:p.drop t=b::p.drop (t+1):=by
         have h1:=List.drop_eq_getElem_cons (l:=p) (i:=t) (by omega)
         rw[h1]
         have h2:=qj (l:=p) (i:=t) (by omega)
         rw[hb]at h2
         rw[Option.some.inj h2]
        rw[this]
        simp
       rw[ae]at U
       refine J4 (Jv (J2 ?_))
       simp only[zS,reduceIte,yQ,yW,yX,yZ,yJ,yK,yV,zT,hg,aj,xb,wrap_u8,qe,U]
       refine⟨by omega,by omega,?_⟩
       refine J2 ?_
       simp only[zS,reduceIte,yQ,yW,yX,yZ,yJ,yK,yV,xi]
       exact⟨n-1,⟨t+1,by omega,rfl,Mem.get_set_same hg _⟩,by omega⟩
      ·simp only[zS,reduceIte,yQ,yW,yX,yZ,yJ,yK,yV]
       have aa:t=64:=by have:=of_decide_eq_false hc;omega
       subst aa
       have e:(p.map (·^^^c)).take 64++p.drop 64=p.map (·^^^c):=by
        rw[qp (by simp;omega),List.drop_of_length_le (by omega),List.append_nil]
       rw[e]at hg
       refine J4 (J2 ?_)
       simp only[zS,reduceIte,yQ,yW,yX,yZ,yJ,yK,yV,zT,to_str (n:=64) hg (by simp;omega)]
       refine Xa ?_
       simp only[zS,reduceIte,yQ,yW,yX,yZ,yJ,yK,yV,sAnswer,sAnswer.sRes]
theorem rturned_at(M:Mem)(k:ByteArray)(c:UInt8)(hk:k.size≤140737488355200):Abs.Spec qc 206 [.string k,.int .i64 (c.toNat:Int)] M fun u M'=>u=.string (str (Sha.pad k.data.toList c))∧M'=M:=
 Abs.Spec.of_empty (by intro x hx;simp at hx;rcases hx with rfl|rfl<;>rfl) rfl (rturned_spec ⟨[]⟩ k c hk) M
theorem str_small(l:List UInt8)(h:l.length≤140737488355200):(str l).size≤140737488355200:=by rw[str_size];exact h
theorem pad_len(k:List UInt8)(c:UInt8):(Sha.pad k c).length=64:=by rw[Sha.pad,List.length_map,Sha.key64_length]
theorem tag_len(k m:List UInt8):(Sha.tag k m).length=32:=by rw[Sha.tag,Sha.sum_length]
theorem rtag_spec(m:Mem)(k s:ByteArray)(hk:k.size≤140737488355000)(hs:s.size≤140737488355000):
 Abs.Spec qc 161 [.string k,.string s] m fun v _=>v=.string (str (Sha.tag k.data.toList s.data.toList)):=by
 have Y:s.data.toList.length=s.size:=by rw[qF];rfl
 have O:=pad_len k.data.toList 0x5c
 have I:=pad_len k.data.toList 0x36
 have U:=Sha.sum_length (Sha.pad k.data.toList 0x36++s.data.toList)
 refine Abs.Spec.walk Tryz.func161 (by rfl) _ Tryz.results161 _ Tryz.ntmps161 (by simp) ?_
 refine J4 (J2 ?_)
 simp only[zS,reduceIte,yQ,yW,yX,yZ,yJ,yK,yV]
 refine J4 (J2 ?_)
 simp only[zS,reduceIte,yQ,yW,yX,yZ,yJ,yK,yV]
 refine⟨by kernel_rfl,_,rturned_at _ k 0x5c (by omega),?_⟩
 rintro _ Z ⟨rfl,_⟩
 simp only[zS,reduceIte,yQ,yW,yX,yZ,yJ,yK,yV]
 refine⟨by kernel_rfl,_,rturned_at _ k 0x36 (by omega),?_⟩
 rintro _ M2 ⟨rfl,_⟩
 have E:JC s=s.data.toList.length:=rfl
 simp only[zS,reduceIte,yQ,yW,yX,yZ,yJ,yK,yV,Zl,bcat_str,E,I]
 refine⟨by omega,by kernel_rfl,_,rsum_at _ _ (str_small _ (by rw[qd];omega)),?_⟩
 rintro _ M3 ⟨rfl,_⟩
 simp only[zS,reduceIte,yQ,yW,yX,yZ,yJ,yK,yV,Zl,bcat_str,str_list,O,U]
 refine⟨by omega,by kernel_rfl,_,rsum_at _ _ (str_small _ (by rw[qd];omega)),?_⟩
 rintro _ M4 ⟨rfl,_⟩
 simp only[zS,reduceIte,yQ,yW,yX,yZ,yJ,yK,yV]
 refine Xa ?_
 simp only[zS,reduceIte,yQ,yW,yX,yZ,yJ,yK,yV,sAnswer,sAnswer.sRes,str_list]
 rfl
theorem rtag_at(M:Mem)(k s:ByteArray)(hk:k.size≤140737488355000)(hs:s.size≤140737488355000):
 Abs.Spec qc 161 [.string k,.string s] M fun v M'=>v=.string (str (Sha.tag k.data.toList s.data.toList))∧M'=M:=
 Abs.Spec.of_empty (by intro x hx;simp at hx;rcases hx with rfl|rfl<;>rfl) rfl (rtag_spec ⟨[]⟩ k s hk hs) M
theorem rwidth32(m:Mem):Abs.Spec qc 244 [.int .i64 32] m fun u M=>u=.int .i64 32∧M=m:=by
 refine WM Tryz.func244 Tryz.results244 Tryz.ntmps244 fun _=>?_
 have E:decide ((32:Int)<1)=false:=rfl
 have I:decide ((32:Int)>32)=false:=rfl
 refine J0 (R0 ?_)
 refine J0 (J0 (R1 @E ?_))
 refine CF (J3 ?_)
 refine S0 ?_
 refine J0 (J0 (R1 @I ?_))
 refine CF (J3 ?_)
 refine S0 ?_
 refine J0 (R0 ?_)
 refine T0 ?_
 exact⟨_,tR _,rfl⟩
theorem rsum15_at(s:List UInt8)(hs:s.length≤10000000)(m:Mem):Abs.Spec qc 210 [.int .i64 32,.string (str s)] m fun u M=>u=.string (str (Sha.sum s))∧M=m:=by
 refine Abs.Spec.of_empty (by intro x hx;simp at hx;rcases hx with rfl|rfl<;>rfl) rfl ?_ m
 have O:∀get,Q1 qc get 9 (.string (str (Sha.sum s))) none (some (.int .i64 32))=some (.string (str (Sha.sum s))):=fun get=>by
  have:=Zp get (str (Sha.sum s)) 32 (by rw[str_size,Sha.sum_length];decide)
  rw[show(str (Sha.sum s)).data.toList=Sha.sum s from rfl,qp (by rw[Sha.sum_length];decide)]at this
  exact this
 refine WM Tryz.func210 Tryz.results210 Tryz.ntmps210 fun _=>?_
 refine J0 (R0 ?_)
 refine J0 (R0 ?_)
 refine⟨by kernel_rfl,_,rsum_at _ (str s) (by rw[str_size];omega),?_⟩
 rintro _ U ⟨rfl,E⟩;replace E:=E.symm;subst E
 have I:(str s).data.toList=s:=rfl
 rw[I]
 refine S0 ?_
 refine K1 @O (rwidth32 _) ?_
 refine T0 ?_
 first|exact⟨_,tR _,rfl⟩|exact⟨_,tR _⟩|exact⟨_,tR _,rfl,rfl⟩
theorem rleaf_at(s:List UInt8)(hs:s.length≤1000000)(m:Mem):Abs.Spec qc 167 [.int .i64 32,.string (str s)] m fun u M=>u=.string (str (Ub s))∧M=m:=by
 refine Abs.Spec.of_empty (by intro x hx;simp at hx;rcases hx with rfl|rfl<;>rfl) rfl ?_ m
 refine WM Tryz.func167 Tryz.results167 Tryz.ntmps167 fun _=>?_
 have E:(⟨#[0]⟩:ByteArray)=str [0]:=rfl
 refine J0 (R0 ?_)
 refine J0 (R3 @E @ZE @V3 ?_)
 refine⟨by first|omega|(simp<;>omega),?_⟩
 refine K0 (rsum15_at ([0]++s) (by simp only[qd,qt,qm];omega) _) ?_
 refine T0 ?_
 first|exact⟨_,tR _,rfl⟩|exact⟨_,tR _⟩
theorem rnode_at(a b:List UInt8)(ha:a.length≤1000000)(hb:b.length≤1000000)(m:Mem):Abs.Spec qc 212 [.int .i64 32,.string (str a),.string (str b)] m fun u M=>u=.string (str (Sha.sum (1::(a++b))))∧M=m:=by
 refine Abs.Spec.of_empty (by intro x hx;simp at hx;rcases hx with rfl|rfl|rfl<;>rfl) rfl ?_ m
 refine WM Tryz.func212 Tryz.results212 Tryz.ntmps212 fun _=>?_
 have E:(⟨#[1]⟩:ByteArray)=str [1]:=rfl
 refine J0 (R0 ?_)
 refine J0 (R3 @E @ZE @V3 ?_)
 refine⟨by first|omega|(simp<;>omega),by first|omega|(simp<;>omega),?_⟩
 refine K0 (rsum15_at ([1]++a++b) (by simp only[qd,qt,qm];omega) _) ?_
 refine T0 ?_
 first|exact⟨_,tR _,rfl⟩|exact⟨_,tR _⟩
theorem rcut_at(n:Nat)(hn:n≤1000000)(m:Mem):Abs.Spec qc 211 [.int .i64 n] m fun u M=>u=.int .i64 (Sha.cut n:Nat)∧M=m:=by
 refine WM Tryz.func211 Tryz.results211 Tryz.ntmps211 fun _=>?_
 refine J0 (R0 ?_)
 refine J0 (R0 ?_)
 refine J0 (J7 (Jr (fun j f M'=>∃c:Nat,f=[(0,.int .i64 (n:Nat)),(3,.int .i64 (c:Nat))]∧Sha.cutF j c n=Sha.cut n∧1≤c∧c≤n+1∧n+1≤j+c∧M'=m) n ?_ ?_))
 ·refine JK [0,3] ?_
  exact⟨m,tR _,1,rfl,rfl,by omega,by omega,by omega,rfl⟩
 ·rintro j f M' ⟨c,rfl,E,h1,h2,Z,U⟩
  replace U:=U.symm;subst U
  have Y:IntKind.i64.wrap ((c:Int)*2)=((2*c:Nat):Int):=by rw[Xn (by omega) (by omega)];omega
  refine J0 (J0 (R1 @Y ?_))
  refine CC (decide (((2*c:Nat):Int)<(n:Int))) (fun hq=>J3 ?_) (fun hq=>Jn ?_)
  ·have I:2*c<n:=by have:=of_decide_eq_true hq;omega
   obtain⟨f,rfl⟩:∃f,j=f+1:=⟨j-1,by omega⟩
   rw[Sha.cutF,if_pos I]at E
   refine S0 ?_
   refine J7 (R1 @Y ?_)
   refine JK [0,3] ?_
   exact⟨_,tR _,f,⟨2*c,rfl,E,by omega,by omega,by omega,rfl⟩,by omega⟩
  ·have I:¬2*c<n:=by have:=of_decide_eq_false hq;omega
   have O:c=Sha.cut n:=by
    cases j with
    |zero=>exact E
    |succ f=>rw[Sha.cutF,if_neg I]at E;exact E
   refine S0 ?_
   refine J0 (R0 ?_)
   refine T0 ?_
   exact⟨_,tR _,by rw[O],rfl⟩
theorem rroot_spec:∀(n:Nat)(L:List (List UInt8)),L.length≤n→n≤1000000→(∀x∈L,x.length≤1000000)→∀(M:Mem)(v:Value),StrsRd M v L→
 Abs.Spec qc 168 [.int .i64 32,v] M fun u M'=>u=.string (str (Xb L))∧M'=M:=by
 intro n
 induction n with
 |zero=>
  intro L hn _ _ M v h
  obtain rfl:L=[]:=List.eq_nil_of_length_eq_zero (by omega)
  obtain⟨a,c,rfl,_,a8,_⟩:=h
  have hj:Jw []=[]:=rfl
  have Z:(((0:Nat):Int)==0)=true:=rfl
  refine WM Tryz.func168 Tryz.results168 Tryz.ntmps168 fun _=>?_
  refine J0 (R0 ?_)
  refine J0 (J0 (R2 @qm.{0} @Z ?_))
  refine CT (J0 (R0 ?_))
  refine K0 (rsum15_at [] (by decide) M) ?_
  refine T0 ?_
  exact⟨_,tR _,by rw[Xb],rfl⟩
 |succ n ih=>
  intro L hn hb I M v h
  by_cases hle:L.length≤n
  ·exact ih L hle (by omega) I M v h
  have hL:L.length=n+1:=by omega
  obtain⟨a,c,rfl,an,_,O⟩:=h
  have Z:(((L.length:Nat):Int)==0)=false:=by rw[hL];simp;omega
  by_cases h1:n=0
  ·subst h1
   obtain⟨x,rfl⟩:∃x,L=[x]:=List.length_eq_one_iff.1 hL
   obtain⟨b,o,ro,cs,rfl,U,a6⟩:=O 0 x rfl
   have q2:((([x].length:Nat):Int)==1)=true:=rfl
   have c0:cellIn (o+0) (some (.cells ro 1 cs))=some (.string (str x)):=a6
   have z0:(0:Int)≤0:=by omega
   have z1:(0:Int)<((1:Nat):Int):=by omega
   refine WM Tryz.func168 Tryz.results168 Tryz.ntmps168 fun _=>?_
   refine J0 (R0 ?_)
   refine J0 (J0 (R1 @Z ?_))
   refine CF (J3 ?_)
   refine S0 ?_
   refine J0 (J0 (R1 @q2 ?_))
   refine CT (J0 (R6 @List.length_singleton.{0} @z0 @z1 @and_self @U @c0 ?_))
   refine T0 ?_
   exact⟨_,tR _,by rw[Xb],rfl⟩
  ·have h2:2≤L.length:=by omega
   have cl:=Sha.cut_lt L.length h2
   have cp:=Sha.cut_pos L.length
   have hr:=rootL_cut h2
   obtain⟨E,Y⟩:∃E,E=Sha.cut L.length:=⟨_,rfl⟩
   obtain⟨x0,a7⟩:∃x,L[0]?=some x:=⟨_,qj (by omega)⟩
   obtain⟨b,o,ro,cs,rfl,U,_⟩:=O 0 x0 a7
   have rd:∀(i:Nat) x,L[i]?=some x→cs[o+i]?=some (.string (str x)):=fun i x hi=>by
    obtain⟨b',o',aw,aq,e1,e2,e3⟩:=O i x hi
    cases e1
    rw[U]at e2;cases e2
    exact e3
   rw[←Y]at cl cp hr
   have q2:(((L.length:Nat):Int)==1)=false:=by simp;omega
   have cu:=rcut_at L.length (by omega) M
   rw[←Y]at cu
   have tl:(L.take E).length=E:=by rw[qw];omega
   have dl:(L.drop E).length=L.length-E:=by rw[List.length_drop]
   have r1:=ih (L.take E) (by omega) (by omega) (fun x hm=>I x (List.mem_of_mem_take hm)) M (.slice (some ⟨b,o,none⟩) E c) ⟨_,_,by rw[tl],by omega,fun e=>.inr (by simp),fun i x hi=>by
    rw[List.getElem?_take]at hi
    split at hi
    ·exact⟨b,o,ro,cs,rfl,U,rd i x hi⟩
    ·cases hi⟩
   have r2:=ih (L.drop E) (by omega) (by omega) (fun x hm=>I x (List.mem_of_mem_drop hm)) M (.slice (some ⟨b,o+E,none⟩) (L.length-E) (c-E)) ⟨_,_,by rw[dl],by omega,fun e=>.inr (by simp),fun i x hi=>by
    rw[List.getElem?_drop]at hi
    exact⟨b,o+E,ro,cs,rfl,U,by rw[Nat.add_assoc];exact rd _ x hi⟩⟩
   have s1:=ss_upto (get:=M.get) (o:=o) (len:=L.length) (cap:=c) U E (by omega)
   have s2:=ss_from (get:=M.get) (o:=o) (len:=L.length) (cap:=c) U E (by omega)
   have nd:=rnode_at (Xb (L.take E)) (Xb (L.drop E)) (rootL_le fun x hm=>I x (List.mem_of_mem_take hm)) (rootL_le fun x hm=>I x (List.mem_of_mem_drop hm)) M
   refine WM Tryz.func168 Tryz.results168 Tryz.ntmps168 fun _=>?_
   refine J0 (R0 ?_)
   refine J0 (J0 (R1 @Z ?_))
   refine CF (J3 ?_)
   refine S0 ?_
   refine J0 (J0 (R1 @q2 ?_))
   refine CF (J3 ?_)
   refine S0 ?_
   refine J0 (R0 ?_)
   refine K0 (cu) ?_
   refine J0 (QG hmix 11 (by kernel_rfl) (by kernel_rfl) ?_)
   simp only[zZ,reduceIte,yQ,yW,yX,yZ,yJ,yK,yV,zDk,Jc,Jb,J9,J8,Xx,s1]
   refine⟨by kernel_rfl,_,r1,?_⟩
   refine⟨by decide,?_⟩
   refine S1 @s2 ?_
   refine⟨by kernel_rfl,_,r2,?_⟩
   refine⟨by decide,?_⟩
   refine S0 ?_
   refine K0 (nd) ?_
   refine T0 ?_
   exact⟨_,tR _,by rw[hr],rfl⟩
theorem rroot_exact(L:List (List UInt8))(hl:L.length≤1000)(hxl:∀x∈L,x.length≤1000000)(M:Mem)(v:Value)(h:StrsRd M v L):
 ∃N,Abs.Spec qc 109 [v] M (fun u M'=>u=.string (str (UG L))∧M'=M.app N)∧N.all ZK=true:=by
 obtain⟨a,c,rfl,ai,ac,a7⟩:=h
 obtain⟨E,Z,a6,a8⟩:=chainS M (L.map Ub) (by rw[qk];omega) L.length (by rw[qk];omega)
 have O:=a6 L.length (qy _)
 refine⟨(E L.length).1,?_,O.1⟩
 refine WM Tryz.func109 Tryz.results109 Tryz.ntmps109 fun _=>?_
 have eM:M=M.app (E 0).1:=by rw[Z];simp[Mem.app]
 have eV:(Value.slice none 0 0)=(E 0).2:=by rw[Z]
 have Y:∀M':Mem,M'=M.app (E L.length).1→Abs.Spec qc 168 [.int .i64 32,(E L.length).2] M' fun u M''=>u=.string (str (Xb (L.map Ub)))∧M''=M':=fun M' e=>by
  have I:=O.2
  rw[qp (by rw[qk];omega)]at I
  refine rroot_spec 1000 (L.map Ub) (by rw[qk];exact hl) (by decide) (fun y hy=>by
   obtain⟨z,_,rfl⟩:=qC.1 hy
   show(Sha.sum _).length≤_
   rw[Sha.sum_length];decide) M' _ ?_
  rw[e];exact I.strs
 refine J0 (R0 ?_)
 refine J0 (R0 ?_)
 rw[eV]
 refine J0 (J0 (R0 ?_))
 refine J7 (Jr (fun j f M'=>∃(i:Nat),j=L.length-i∧f=[(0,.slice a L.length c),(3,(E i).2),(4,.int .i64 (i:Nat))]∧i≤L.length∧M'=M.app (E i).1) L.length ?_ ?_)
 ·refine JK [0,3,4] ?_
  exact⟨M,tR _,0,rfl,rfl,by omega,eM⟩
 ·rintro j f M' ⟨i,rfl,rfl,hi,rfl⟩
  refine J0 (J0 (R0 ?_))
  refine CC (decide ((i:Int)<(L.length:Int))) (fun hq=>J3 ?_) (fun hq=>Jn ?_)
  ·have a2:=of_decide_eq_true hq
   obtain⟨x,U⟩:∃x,L[i]?=some x:=⟨_,qj (by omega)⟩
   obtain⟨b,o,ro,cs,rfl,hg,aa⟩:=a7 i x U
   have ab:=Qq M (E i).1 _ _ hg
   have c0:cellIn (o+i) (some (.cells ro 1 cs))=some (.string (str x)):=aa
   have z0:(0:Int)≤(i:Int):=by omega
   have w9:IntKind.i64.wrap ((i:Int)+1)=((i+1:Nat):Int):=by rw[Xn (by omega) (by omega)];omega
   have lf:=rleaf_at x (hxl x (qA U)) (M.app (E i).1)
   have nw:=Vf (Ub x)
   have st:=a8 i (Ub x) (by omega) (by rw[qv,U];rfl)
   unfold StepS at st
   refine S0 ?_
   refine J0 (J7 (R6 @z0 @a2 @and_self @ab @qe @c0 ?_))
   refine K2 @nw @st (lf) ?_
   refine R1 @w9 ?_
   refine JK [0,3,4] ?_
   exact⟨_,tR _,L.length-(i+1),⟨i+1,rfl,rfl,by omega,rfl⟩,by omega⟩
  ·have a2:=of_decide_eq_false hq
   obtain rfl:i=L.length:=by omega
   have mr:=Y _ rfl
   refine S0 ?_
   refine J0 (R0 ?_)
   refine K0 (mr) ?_
   refine T0 ?_
   exact⟨_,tR _,rfl,rfl⟩
theorem rexpand_spec(m:Mem)(k s:ByteArray)(hk:k.size≤140737488355000)(hs:s.size≤1000):
 Abs.Spec qc 162 [.string k,.string s,.int .i64 32] m fun v _=>v=.tuple #[.string (str (Sha.expand k.data.toList s.data.toList 32)),.int .i64 0]:=by
 obtain⟨T,hT⟩:∃T,T=Sha.tag k.data.toList (s.data.toList++[1]):=⟨_,rfl⟩
 have E:T.length=32:=by rw[hT,tag_len]
 have O:Sha.expand k.data.toList s.data.toList 32=T:=by
  have:Sha.expand k.data.toList s.data.toList 32=T.take 32:=by rw[hT];rfl
  rw[this,qp (by omega)]
 have a8:s.data.toList.length=s.size:=by rw[qF];rfl
 rw[O]
 refine Abs.Spec.walk Tryz.func162 (by rfl) _ Tryz.results162 _ Tryz.ntmps162 (by simp) ?_
 refine J4 (J2 ?_)
 simp only[zS,reduceIte,yQ,yW,yX,yZ,yJ,yK,yV]
 refine J4 (J4 (J2 ?_))
 simp only[zS,reduceIte,yQ,yW,yX,yZ,yJ,yK,yV,zT,Region.wanted,vPick,qf,qh,yJ,Int.reduceGT,decide_false,decide_true,beq_self_eq_true]
 refine Q2 false (by rfl) (fun h=>by cases h) (fun _=>Q5 ?_)
 simp only[zS,reduceIte,yQ,yW,yX,yZ,yJ,yK,yV]
 refine J4 (J2 ?_)
 simp only[zS,reduceIte,yQ,yW,yX,yZ,yJ,yK,yV]
 refine J4 (J2 ?_)
 simp only[zS,reduceIte,yQ,yW,yX,yZ,yJ,yK,yV]
 refine J4 (J4 (J2 ?_))
 simp only[zS,reduceIte,yQ,yW,yX,yZ,yJ,yK,yV]
 refine Jv (Qy [0,1,2,8,9,10] (fun n f M=>(n=1∧f=[(0,.string k),(1,.string s),(2,.int .i64 32),(8,.string (str [])),(9,.string (str [])),(10,.int .i64 1)])∨(n=0∧∃v9 I,f=[(0,.string k),(1,.string s),(2,.int .i64 32),(8,.string (str T)),(9,v9),(10,I)])) 1 ?_ ?_)
 ·simp only[zS,reduceIte,yQ,yW,yX,yZ,yJ,yK,yV]
  exact .inl rfl
 ·rintro n f M (⟨rfl,rfl⟩|⟨rfl,v9,I,rfl⟩)
  ·refine J4 (J4 (J2 ?_))
   simp only[zS,reduceIte,yQ,yW,yX,yZ,yJ,yK,yV,zT,Zl,qm]
   refine Q2 true (by rfl) (fun h=>Q5 ?_) (fun h=>by cases h)
   simp only[zS,reduceIte,yQ,yW,yX,yZ,yJ,yK,yV]
   have U:JC s=s.data.toList.length:=rfl
   have Z:IntKind.u8.wrap 1=1:=rfl
   have Y:∀M:Mem,(M.push (.cells false 1 [.int .u8 1])).get M.size=some (.cells false 1 (J5 [1])):=fun M=>Mem.get_push_new _ _
   refine J4 (Jv (J4 (J2 ?_)))
   simp only[zS,reduceIte,yQ,yW,yX,yZ,yJ,yK,yV,zT,Zl,bcat_str,U,Z,str_list,qm,qd,qt,to_str (n:=1) (l:=[1]) (Y _) rfl]
   refine⟨by omega,by omega,by kernel_rfl,_,rtag_at _ _ _ hk (by rw[str_size,qd];simp;omega),?_⟩
   rintro _ M1 ⟨rfl,_⟩
   simp only[str_list]
   rw[←hT]
   have xi:IntKind.i64.wrap (1+1)=2:=rfl
   simp only[zS,reduceIte,yQ,yW,yX,yZ,yJ,yK,yV]
   refine J2 ?_
   simp only[zS,reduceIte,yQ,yW,yX,yZ,yJ,yK,yV,zT,Zl,bcat_str,str_list,qm,E]
   refine⟨by omega,?_⟩
   refine J2 ?_
   simp only[zS,reduceIte,yQ,yW,yX,yZ,yJ,yK,yV,xi]
   exact⟨0,.inr ⟨rfl,_,_,rfl⟩,by omega⟩
  ·refine J4 (J4 (J2 ?_))
   simp only[zS,reduceIte,yQ,yW,yX,yZ,yJ,yK,yV,zT,Zl,E]
   refine Q2 false (by rfl) (fun h=>by cases h) (fun h=>QF ?_)
   simp only[zS,reduceIte,yQ,yW,yX,yZ,yJ,yK,yV]
   refine J4 (J2 ?_)
   have hb:bsub (str T) 0 32=str T:=by
    show(⟨⟨(T.drop 0).take 32⟩⟩:ByteArray)=⟨⟨T⟩⟩
    rw[List.drop_zero,qp (by omega)]
   simp only[zS,reduceIte,yQ,yW,yX,yZ,yJ,yK,yV,zT,slice_str (str T) 32 (by decide) (by rw[Zl,E];decide),hb]
   refine Xa ?_
   simp only[zS,reduceIte,yQ,yW,yX,yZ,yJ,yK,yV,sAnswer,sAnswer.sRes]
theorem rexpand_at(M:Mem)(k s:ByteArray)(hk:k.size≤140737488355000)(hs:s.size≤1000):
 Abs.Spec qc 162 [.string k,.string s,.int .i64 32] M fun v M'=>v=.tuple #[.string (str (Sha.expand k.data.toList s.data.toList 32)),.int .i64 0]∧M'=M:=
 Abs.Spec.of_flat (by intro x hx;simp at hx;rcases hx with rfl|rfl|rfl<;>rfl) rfl fun w=>Calls.of_flat_val (by intro x hx;simp at hx;rcases hx with rfl|rfl|rfl<;>rfl) rfl (rexpand_spec ⟨[]⟩ k s hk hs) w
theorem new_keys:Qa qc 98=some (.cells false 1 [.string ⟨#[]⟩,.string ⟨#[]⟩,.string ⟨#[]⟩]):=by kernel_rfl
theorem build_keys(a b c:ByteArray):Qj qc 98 [(0,.string a),(1,.string b),(2,.string c)]=some (.agg #[.string a,.string b,.string c]):=by kernel_rfl
theorem inf_keys:qc.info? 98=some Tryz.t98:=by kernel_rfl
theorem keys_size:Tryz.t98.size=3:=rfl
theorem rkeys_spec(m:Mem)(secret salt:ByteArray)(h1:secret.size≤140737488355000)(h2:salt.size≤140737488355000):
 Abs.Spec qc 105 [.string secret,.string salt] m fun v _=>v=keysV secret.data.toList salt.data.toList:=by
 have Z:∀a b,(str (Sha.tag a b)).size≤140737488355000:=fun a b=>by rw[str_size,Sha.tag_length];decide
 refine Abs.Spec.walk Tryz.func105 (by rfl) _ Tryz.results105 _ Tryz.ntmps105 (by simp) ?_
 refine J4 (J2 ?_)
 simp only[zS,reduceIte,yQ,yW,yX,yZ,yJ,yK,yV,new_keys]
 refine J4 (J2 ?_)
 simp only[zS,reduceIte,yQ,yW,yX,yZ,yJ,yK,yV]
 refine⟨by kernel_rfl,_,rtag_at _ _ _ h2 h1,?_⟩
 rintro _ M1 ⟨rfl,U⟩
 simp only[zS,reduceIte,yQ,yW,yX,yZ,yJ,yK,yV]
 refine J4 (J2 ?_)
 simp only[zS,reduceIte,yQ,yW,yX,yZ,yJ,yK,yV]
 refine⟨by kernel_rfl,_,rexpand_at _ _ _ (Z _ _) (by decide),?_⟩
 rintro _ M2 ⟨rfl,Y⟩
 simp only[zS,reduceIte,yQ,yW,yX,yZ,yJ,yK,yV,qf,qh]
 refine J4 (J2 ?_)
 simp only[zS,reduceIte,yQ,yW,yX,yZ,yJ,yK,yV]
 refine⟨by kernel_rfl,_,rexpand_at _ _ _ (Z _ _) (by decide),?_⟩
 rintro _ M3 ⟨rfl,a2⟩
 simp only[zS,reduceIte,yQ,yW,yX,yZ,yJ,yK,yV,qf,qh]
 refine J4 (J2 ?_)
 simp only[zS,reduceIte,yQ,yW,yX,yZ,yJ,yK,yV]
 refine⟨by kernel_rfl,_,rtag_at _ _ _ (by decide) h1,?_⟩
 rintro _ M4 ⟨rfl,O⟩
 simp only[zS,reduceIte,yQ,yW,yX,yZ,yJ,yK,yV]
 refine⟨by kernel_rfl,_,rexpand_at _ _ _ (Z _ _) (by decide),?_⟩
 rintro _ E ⟨rfl,a6⟩
 simp only[zS,reduceIte,yQ,yW,yX,yZ,yJ,yK,yV,qf,qh]
 have hM:E=m.push (.cells false 1 [.string ⟨#[]⟩,.string ⟨#[]⟩,.string ⟨#[]⟩]):=by rw[a6,O,a2,Y,U]
 have hg:E.get m.size=some (.cells false 1 [.string ⟨#[]⟩,.string ⟨#[]⟩,.string ⟨#[]⟩]):=by rw[hM,Mem.get_push_new]
 have a7:∀a b c:ByteArray,Qf qc E 98 (.pointer (some ⟨m.size,0,none⟩)) (.agg #[.string a,.string b,.string c])=some (E.set m.size (some (.cells false 1 [.string a,.string b,.string c]))):=fun a b c=>by
  unfold Qf
  simp only[hg,inf_keys,keys_size]
  rfl
 have I:∀a b c:ByteArray,UZ qc (E.set m.size (some (.cells false 1 [.string a,.string b,.string c]))) 98 (.pointer (some ⟨m.size,0,none⟩))=some (.agg #[.string a,.string b,.string c]):=fun a b c=>by
  unfold UZ
  simp only[Mem.get_set_same hg,inf_keys,keys_size,Tryz.underlying98]
  rfl
 refine J4 (J2 ?_)
 simp only[zS,reduceIte,yQ,yW,yX,yZ,yJ,yK,yV,vBuild,build_keys,a7]
 refine Xa ?_
 simp only[zS,reduceIte,yQ,yW,yX,yZ,yJ,yK,yV,sAnswer,sAnswer.sRes,I]
 rfl
def Cha.rotl(x n:Nat):Nat:=(x*2^n|||x/2^(32-n))%4294967296
def Cha.add(x y:Nat):Nat:=(x+y)%4294967296
def Cha.quarter(a b c d:Nat):Nat×Nat×Nat×Nat:=
 let a1:=Cha.add a b
 let d1:=Cha.rotl (d^^^a1) 16
 let c1:=Cha.add c d1
 let b1:=Cha.rotl (b^^^c1) 12
 let a2:=Cha.add a1 b1
 let d2:=Cha.rotl (d1^^^a2) 8
 let c2:=Cha.add c1 d2
 let b2:=Cha.rotl (b1^^^c2) 7
 (a2,b2,c2,d2)
theorem Cha.rotl_lt(x n:Nat):Cha.rotl x n<4294967296:=Nat.mod_lt _ (by decide)
theorem Cha.add_lt(x n:Nat):Cha.add x n<4294967296:=Nat.mod_lt _ (by decide)
theorem rotl_spec(m:Mem)(x n:Nat)(h1:1≤n)(h2:n≤16)(hx:x<4294967296):
 Abs.Spec qc 254 [.int .i64 (x:Int),.int .i64 (n:Int)] m fun v _=>v=.int .i64 (Cha.rotl x n:Nat):=by
 have hb:x*2^n<281474976710656:=Nat.lt_of_lt_of_le (Nat.mul_lt_mul_of_pos_right hx (Nat.pow_pos (by decide))) (by
  have:2^n≤2^16:=Nat.pow_le_pow_right (by decide) h2
  omega)
 have Z:x/2^(32-n)≤x:=Nat.div_le_self _ _
 have O:IntKind.i64.wrap ((x:Int)*2^min (n:Int).toNat IntKind.i64.bits)=((x*2^n:Nat):Int):=by
  rw[ZG,qe,show min n 64=n by omega]
  have:(x:Int)*2^n=((x*2^n:Nat):Int):=by push_cast;rfl
  rw[this,wr (by omega) (by omega)]
 have I:IntKind.i64.wrap (32-(n:Int))=((32-n:Nat):Int):=by rw[wr (by omega) (by omega)];omega
 have Y:(x:Int).fdiv (2^min ((32-n:Nat):Int).toNat IntKind.i64.bits)=((x/2^(32-n):Nat):Int):=by
  rw[ZG,qe,show min (32-n) 64=32-n by omega,Int.fdiv_eq_ediv_of_nonneg _ (Int.le_of_lt (Int.pow_pos (by decide)))]
  push_cast;rfl
 have E:x*2^n|||x/2^(32-n)<2^48:=Nat.or_lt_two_pow hb (by omega)
 have U:bits .and .i64 (bits .or .i64 ((x*2^n:Nat):Int) ((x/2^(32-n):Nat):Int)) 4294967295=(Cha.rotl x n:Nat):=by
  rw[VW _ _ (by omega) (by omega),UN _ (by omega)];rfl
 refine Abs.Spec.walk Tryz.func254 (by rfl) _ Tryz.results254 _ Tryz.ntmps254 (by simp) ?_
 refine J4 (J2 ?_)
 simp only[zS,reduceIte,yQ,yW,yX,yZ,yJ,yK,yV]
 refine J4 (Z7 hmix 7 (by kernel_rfl) (by kernel_rfl) ?_)
 simp only[zS,reduceIte,yQ,yW,yX,yZ,yJ,yK,yV,O,I,Y,U]
 refine⟨by omega,by omega,?_⟩
 refine Xa ?_
 simp only[zS,reduceIte,yQ,yW,yX,yZ,yJ,yK,yV,sAnswer,sAnswer.sRes]
theorem rotl_at(M:Mem)(x n:Nat)(h1:1≤n)(h2:n≤16)(hx:x<4294967296):
 Abs.Spec qc 254 [.int .i64 (x:Int),.int .i64 (n:Int)] M fun v M'=>v=.int .i64 (Cha.rotl x n:Nat)∧M'=M:=
 Abs.Spec.of_flat (by intro x hx;simp at hx;rcases hx with rfl|rfl<;>rfl) rfl fun w=>Calls.of_flat_val (by intro x hx;simp at hx;rcases hx with rfl|rfl<;>rfl) rfl (rotl_spec ⟨[]⟩ x n h1 h2 hx) w
theorem x32(a b:Nat)(ha:a<4294967296)(hb:b<4294967296):bits .xor .i64 (a:Int) (b:Int)=((a^^^b:Nat):Int):=XK _ _ (by omega) (by omega)
theorem a32(a b:Nat)(ha:a<4294967296)(hb:b<4294967296):bits .and .i64 (IntKind.i64.wrap ((a:Int)+(b:Int))) 4294967295=(Cha.add a b:Nat):=sum_i64 a b ha hb
theorem quarter_spec(m:Mem)(a b c d:Nat)(ha:a<4294967296)(hb:b<4294967296)(hc:c<4294967296)(hd:d<4294967296):
 Abs.Spec qc 242 [.int .i64 (a:Int),.int .i64 (b:Int),.int .i64 (c:Int),.int .i64 (d:Int)] m fun v _=>v=.tuple #[.int .i64 ((Cha.quarter a b c d).1:Nat),.int .i64 ((Cha.quarter a b c d).2.1:Nat),.int .i64 ((Cha.quarter a b c d).2.2.1:Nat),.int .i64 ((Cha.quarter a b c d).2.2.2:Nat)]:=by
 have mk:∀x:Nat,x<4294967296→bits .and .i64 (x:Int) 4294967295=(x:Int):=fun x hx=>by rw[UN _ (by omega)];omega
 have A:=Cha.add_lt
 have T:=Cha.rotl_lt
 have X:∀x y:Nat,x<4294967296→y<4294967296→x^^^y<4294967296:=fun x y h1 h2=>Nat.xor_lt_two_pow (n:=32) h1 h2
 refine Abs.Spec.walk Tryz.func242 (by rfl) _ Tryz.results242 _ Tryz.ntmps242 (by simp) ?_
 refine J4 (J2 ?_)
 simp only[zS,reduceIte,yQ,yW,yX,yZ,yJ,yK,yV]
 refine J4 (J2 ?_)
 simp only[zS,reduceIte,yQ,yW,yX,yZ,yJ,yK,yV,mk a ha]
 refine J4 (J2 ?_)
 simp only[zS,reduceIte,yQ,yW,yX,yZ,yJ,yK,yV,mk b hb]
 refine J4 (J2 ?_)
 simp only[zS,reduceIte,yQ,yW,yX,yZ,yJ,yK,yV,mk c hc]
 refine J4 (J2 ?_)
 simp only[zS,reduceIte,yQ,yW,yX,yZ,yJ,yK,yV,mk d hd]
 refine SW_keep [0,1,2,3] ?_
 simp only[zS,reduceIte,yQ,yW,yX,yZ,yJ,yK,yV]
 refine J4 (J2 ?_)
 simp only[zS,reduceIte,yQ,yW,yX,yZ,yJ,yK,yV,a32 a b ha hb]
 refine J4 (J2 ?_)
 simp only[zS,reduceIte,yQ,yW,yX,yZ,yJ,yK,yV,x32 d (Cha.add a b) hd (A _ _)]
 refine⟨by kernel_rfl,_,rotl_at _ _ 16 (by decide) (by decide) (X _ _ hd (A _ _)),?_⟩
 rintro _ I ⟨rfl,E⟩
 clear E
 simp only[zS,reduceIte,yQ,yW,yX,yZ,yJ,yK,yV]
 refine J4 (J2 ?_)
 simp only[zS,reduceIte,yQ,yW,yX,yZ,yJ,yK,yV,a32 c (Cha.rotl (d^^^(Cha.add a b)) 16) hc (T _ _)]
 refine J4 (J2 ?_)
 simp only[zS,reduceIte,yQ,yW,yX,yZ,yJ,yK,yV,x32 b (Cha.add c (Cha.rotl (d^^^(Cha.add a b)) 16)) hb (A _ _)]
 refine⟨by kernel_rfl,_,rotl_at _ _ 12 (by decide) (by decide) (X _ _ hb (A _ _)),?_⟩
 rintro _ I ⟨rfl,E⟩
 clear E
 simp only[zS,reduceIte,yQ,yW,yX,yZ,yJ,yK,yV]
 refine J4 (J2 ?_)
 simp only[zS,reduceIte,yQ,yW,yX,yZ,yJ,yK,yV,a32 (Cha.add a b) (Cha.rotl (b^^^(Cha.add c (Cha.rotl (d^^^(Cha.add a b)) 16))) 12) (A _ _) (T _ _)]
 refine J4 (J2 ?_)
 simp only[zS,reduceIte,yQ,yW,yX,yZ,yJ,yK,yV,x32 (Cha.rotl (d^^^(Cha.add a b)) 16) (Cha.add (Cha.add a b) (Cha.rotl (b^^^(Cha.add c (Cha.rotl (d^^^(Cha.add a b)) 16))) 12)) (T _ _) (A _ _)]
 refine⟨by kernel_rfl,_,rotl_at _ _ 8 (by decide) (by decide) (X _ _ (T _ _) (A _ _)),?_⟩
 rintro _ I ⟨rfl,E⟩
 clear E
 simp only[zS,reduceIte,yQ,yW,yX,yZ,yJ,yK,yV]
 refine J4 (J2 ?_)
 simp only[zS,reduceIte,yQ,yW,yX,yZ,yJ,yK,yV,a32 (Cha.add c (Cha.rotl (d^^^(Cha.add a b)) 16)) (Cha.rotl ((Cha.rotl (d^^^(Cha.add a b)) 16)^^^(Cha.add (Cha.add a b) (Cha.rotl (b^^^(Cha.add c (Cha.rotl (d^^^(Cha.add a b)) 16))) 12))) 8) (A _ _) (T _ _)]
 refine J4 (J2 ?_)
 simp only[zS,reduceIte,yQ,yW,yX,yZ,yJ,yK,yV,x32 (Cha.rotl (b^^^(Cha.add c (Cha.rotl (d^^^(Cha.add a b)) 16))) 12) (Cha.add (Cha.add c (Cha.rotl (d^^^(Cha.add a b)) 16)) (Cha.rotl ((Cha.rotl (d^^^(Cha.add a b)) 16)^^^(Cha.add (Cha.add a b) (Cha.rotl (b^^^(Cha.add c (Cha.rotl (d^^^(Cha.add a b)) 16))) 12))) 8)) (T _ _) (A _ _)]
 refine⟨by kernel_rfl,_,rotl_at _ _ 7 (by decide) (by decide) (X _ _ (T _ _) (A _ _)),?_⟩
 rintro _ I ⟨rfl,E⟩
 clear E
 simp only[zS,reduceIte,yQ,yW,yX,yZ,yJ,yK,yV]
 refine J4 (J2 ?_)
 simp only[zS,reduceIte,yQ,yW,yX,yZ,yJ,yK,yV]
 refine Xa ?_
 simp only[zS,reduceIte,yQ,yW,yX,yZ,yJ,yK,yV,sAnswer,sAnswer.sRes]
 rfl
theorem quarter_at(M:Mem)(a b c d:Nat)(ha:a<4294967296)(hb:b<4294967296)(hc:c<4294967296)(hd:d<4294967296):
 Abs.Spec qc 242 [.int .i64 (a:Int),.int .i64 (b:Int),.int .i64 (c:Int),.int .i64 (d:Int)] M fun v M'=>v=.tuple #[.int .i64 ((Cha.quarter a b c d).1:Nat),.int .i64 ((Cha.quarter a b c d).2.1:Nat),.int .i64 ((Cha.quarter a b c d).2.2.1:Nat),.int .i64 ((Cha.quarter a b c d).2.2.2:Nat)]∧M'=M:=
 Abs.Spec.of_flat (by intro x hx;simp at hx;rcases hx with rfl|rfl|rfl|rfl<;>rfl) rfl fun w=>Calls.of_flat_val (by intro x hx;simp at hx;rcases hx with rfl|rfl|rfl|rfl<;>rfl) rfl (quarter_spec ⟨[]⟩ a b c d ha hb hc hd) w
def Cha.word(l:List UInt8)(i:Nat):Nat:=(l.getD (4*i) 0).toNat+(l.getD (4*i+1) 0).toNat*256+(l.getD (4*i+2) 0).toNat*65536+(l.getD (4*i+3) 0).toNat*16777216
def Cha.words(l:List UInt8)(n:Nat):List Nat:=(qq n).map (Cha.word l)
theorem Cha.word_lt(l:List UInt8)(i:Nat):Cha.word l i<4294967296:=by
 unfold Cha.word
 have I:=qi (l.getD (4*i) 0)
 have O:=qi (l.getD (4*i+1) 0)
 have h2:=qi (l.getD (4*i+2) 0)
 have E:=qi (l.getD (4*i+3) 0)
 omega
theorem words_spec(m:Mem)(s:ByteArray)(hs:s.size≤1000000):
 Abs.Spec qc 241 [.string s] m fun v m'=>Sl m' v ((Cha.words s.data.toList (s.size/4)).map natV)∧Grows m m'∧(∀g l c,v=.slice (some ⟨g,0,none⟩) l c→m.size≤g):=by
 obtain⟨l,hl⟩:∃l,l=s.data.toList:=⟨_,rfl⟩
 have al:JC s=s.size:=ZV s
 rw[←hl]
 refine Abs.Spec.walk Tryz.func241 (by rfl) _ Tryz.results241 _ Tryz.ntmps241 (by simp) ?_
 refine J4 (J2 ?_)
 simp only[zS,reduceIte,yQ,yW,yX,yZ,yJ,yK,yV]
 refine J4 (J2 ?_)
 simp only[zS,reduceIte,yQ,yW,yX,yZ,yJ,yK,yV]
 refine J4 (J4 (J2 ?_))
 simp only[zS,reduceIte,yQ,yW,yX,yZ,yJ,yK,yV]
 refine Jv (Qy [0,3,4] (fun k f M=>∃(t:Nat)(o:Value),t+k=s.size/4∧f=[(0,.string s),(3,o),(4,.int .i64 ((4*t:Nat):Int))]∧Sl M o ((Cha.words l t).map natV)∧Grows m M∧(∀g l c,o=.slice (some ⟨g,0,none⟩) l c→m.size≤g)) (s.size/4) ?_ ?_)
 ·simp only[zS,reduceIte,yQ,yW,yX,yZ,yJ,yK,yV]
  exact⟨0,_,by omega,rfl,.inl ⟨rfl,rfl⟩,Grows.refl m,fun g l c e=>by cases e⟩
 ·rintro k f M ⟨t,o,ht,rfl,ho,ab,Y⟩
  have w3:IntKind.i64.wrap (((4*t:Nat):Int)+3)=((4*t+3:Nat):Int):=by rw[wr (by omega) (by omega)];omega
  refine J4 (J4 (J2 ?_))
  simp only[zS,reduceIte,yQ,yW,yX,yZ,yJ,yK,yV,zT,al,w3]
  refine Q2 (decide (((4*t+3:Nat):Int)<(s.size:Int))) (by rfl) (fun hc=>Q5 ?_) (fun hc=>QF ?_)
  ·simp only[zS,reduceIte,yQ,yW,yX,yZ,yJ,yK,yV]
   have aq:=of_decide_eq_true hc
   have an:4*t+3<s.size:=by omega
   have w1:IntKind.i64.wrap (((4*t:Nat):Int)+1)=((4*t+1:Nat):Int):=by rw[wr (by omega) (by omega)];omega
   have w2:IntKind.i64.wrap (((4*t:Nat):Int)+2)=((4*t+2:Nat):Int):=by rw[wr (by omega) (by omega)];omega
   have w4:IntKind.i64.wrap (((4*t:Nat):Int)+4)=((4*(t+1):Nat):Int):=by rw[wr (by omega) (by omega)];omega
   have i0:=Abs.index_str s ((4*t:Nat):Int) (4*t) rfl (by omega)
   have i1:=Abs.index_str s ((4*t+1:Nat):Int) (4*t+1) rfl (by omega)
   have i2:=Abs.index_str s ((4*t+2:Nat):Int) (4*t+2) rfl (by omega)
   have i3:=Abs.index_str s ((4*t+3:Nat):Int) (4*t+3) rfl (by omega)
   rw[←hl]at i0 i1 i2 i3
   obtain⟨O,e0⟩:∃a:Nat,a=(l.getD (4*t) 0).toNat:=⟨_,rfl⟩
   obtain⟨E,e1⟩:∃a:Nat,a=(l.getD (4*t+1) 0).toNat:=⟨_,rfl⟩
   obtain⟨I,e2⟩:∃a:Nat,a=(l.getD (4*t+2) 0).toNat:=⟨_,rfl⟩
   obtain⟨Z,e3⟩:∃a:Nat,a=(l.getD (4*t+3) 0).toNat:=⟨_,rfl⟩
   have b0:O<256:=by rw[e0];exact qi _
   have b1:E<256:=by rw[e1];exact qi _
   have b2:I<256:=by rw[e2];exact qi _
   have b3:Z<256:=by rw[e3];exact qi _
   have hw:Cha.word l t=O+E*256+I*65536+Z*16777216:=by rw[e0,e1,e2,e3];rfl
   rw[←e0]at i0
   rw[←e1]at i1
   rw[←e2]at i2
   rw[←e3]at i3
   have v0:IntKind.i64.wrap (O:Int)=(O:Int):=wr (by omega) (by omega)
   have v1:IntKind.i64.wrap (E:Int)=(E:Int):=wr (by omega) (by omega)
   have v2:IntKind.i64.wrap (I:Int)=(I:Int):=wr (by omega) (by omega)
   have v3:IntKind.i64.wrap (Z:Int)=(Z:Int):=wr (by omega) (by omega)
   have v4:IntKind.i64.wrap ((E:Int)*256)=(E:Int)*256:=wr (by omega) (by omega)
   have v5:IntKind.i64.wrap ((I:Int)*65536)=(I:Int)*65536:=wr (by omega) (by omega)
   have v6:IntKind.i64.wrap ((Z:Int)*16777216)=(Z:Int)*16777216:=wr (by omega) (by omega)
   have v7:IntKind.i64.wrap ((O:Int)+(E:Int)*256)=(O:Int)+(E:Int)*256:=wr (by omega) (by omega)
   have v8:IntKind.i64.wrap ((O:Int)+(E:Int)*256+(I:Int)*65536)=(O:Int)+(E:Int)*256+(I:Int)*65536:=wr (by omega) (by omega)
   have v9:IntKind.i64.wrap ((O:Int)+(E:Int)*256+(I:Int)*65536+(Z:Int)*16777216)=((Cha.word l t:Nat):Int):=by rw[wr (by omega) (by omega),hw];omega
   have aw:((Cha.words l t).map natV).length=t:=by simp[Cha.words]
   obtain⟨s',m2,U,aa,a8,a6⟩:=ho.app_int ab Y (natV (Cha.word l t)) (by omega)
   have a7:(Cha.words l t).map natV++[natV (Cha.word l t)]=(Cha.words l (t+1)).map natV:=by simp[Cha.words,qu]
   rw[a7]at aa
   unfold natV at U
   refine J4 (Jv (Z7 hmix 27 (by kernel_rfl) (by kernel_rfl) ?_))
   simp only[zS,reduceIte,yQ,yW,yX,yZ,yJ,yK,yV,zT,w1,w2,w3,i0,i1,i2,i3,v0,v1,v2,v3,v4,v5,v6,v7,v8,v9,U]
   refine J2 ?_
   simp only[zS,reduceIte,yQ,yW,yX,yZ,yJ,yK,yV,w4]
   exact⟨k-1,⟨t+1,s',by omega,rfl,aa,a8,a6⟩,by omega⟩
  ·simp only[zS,reduceIte,yQ,yW,yX,yZ,yJ,yK,yV]
   have aE:=of_decide_eq_false hc
   have ad:t=s.size/4:=by omega
   subst ad
   refine J4 (J2 ?_)
   simp only[zS,reduceIte,yQ,yW,yX,yZ,yJ,yK,yV]
   refine Xa ?_
   simp only[zS,reduceIte,yQ,yW,yX,yZ,yJ,yK,yV,sAnswer,sAnswer.sRes]
   exact⟨ho,ab,Y⟩
def Cha.rows:List (List Nat):=[[0,4,8,12],[1,5,9,13],[2,6,10,14],[3,7,11,15],[0,5,10,15],[1,6,11,12],[2,7,8,13],[3,4,9,14]]
def Cha.at(r k:Nat):Nat:=((Cha.rows.getD r []).getD k 0)
def Cha.step(x:List Nat)(r:Nat):List Nat:=
 let q:=Cha.quarter (x.getD (Cha.at r 0) 0) (x.getD (Cha.at r 1) 0) (x.getD (Cha.at r 2) 0) (x.getD (Cha.at r 3) 0)
 (((x.set (Cha.at r 0) q.1).set (Cha.at r 1) q.2.1).set (Cha.at r 2) q.2.2.1).set (Cha.at r 3) q.2.2.2
def Cha.inner(x:List Nat):Nat→List Nat
 |0=>x
 |r+1=>Cha.step (Cha.inner x r) r
def Cha.dbl(x:List Nat):Nat→List Nat
 |0=>x
 |n+1=>Cha.inner (Cha.dbl x n) 8
def Cha.init(key nonce:List UInt8)(c:Nat):List Nat:=[1634760805,857760878,2036477234,1797285236]++Cha.words key 8++[c]++Cha.words nonce 3
def Cha.le(w:Nat):Nat→List UInt8
 |0=>[]
 |n+1=>UInt8.ofNat (w%256)::Cha.le (w/256) n
def Cha.outN(x s:List Nat)(n:Nat):List UInt8:=(qq n).flatMap fun i=>Cha.le (Cha.add (x.getD i 0) (s.getD i 0)) 4
def Cha.block(key nonce:List UInt8)(c:Nat):List UInt8:=Cha.outN (Cha.dbl (Cha.init key nonce c) 10) (Cha.init key nonce c) 16
theorem Cha.at_lt(r k:Nat)(hr:r<8)(hk:k<4):Cha.at r k<16:=by
 have:∀r:Fin 8,∀k:Fin 4,Cha.at r.val k.val<16:=by decide
 exact this ⟨r,hr⟩ ⟨k,hk⟩
def Cha.Ok(x:List Nat):Prop:=x.length=16∧∀i,x.getD i 0<4294967296
theorem Cha.Ok.set{x:List Nat}(h:Cha.Ok x)(i v:Nat)(hv:v<4294967296):Cha.Ok (x.set i v):=by
 refine⟨by simp[h.1],fun j=>?_⟩
 rw[List.getD,List.getElem?_set]
 split
 ·split
  ·exact hv
  ·decide
 ·have:=h.2 j
  rw[List.getD]at this
  exact this
theorem Cha.quarter_lt(a b c d:Nat):(Cha.quarter a b c d).1<4294967296∧(Cha.quarter a b c d).2.1<4294967296∧(Cha.quarter a b c d).2.2.1<4294967296∧(Cha.quarter a b c d).2.2.2<4294967296:=
 ⟨Cha.add_lt _ _,Cha.rotl_lt _ _,Cha.add_lt _ _,Cha.rotl_lt _ _⟩
theorem Cha.step_ok{x:List Nat}(h:Cha.Ok x)(r:Nat):Cha.Ok (Cha.step x r):=by
 obtain⟨I,h2,E,O⟩:=Cha.quarter_lt (x.getD (Cha.at r 0) 0) (x.getD (Cha.at r 1) 0) (x.getD (Cha.at r 2) 0) (x.getD (Cha.at r 3) 0)
 exact(((h.set _ _ I).set _ _ h2).set _ _ E).set _ _ O
theorem Cha.inner_ok{x:List Nat}(h:Cha.Ok x):∀r,Cha.Ok (Cha.inner x r)
 |0=>h
 |r+1=>Cha.step_ok (Cha.inner_ok h r) r
theorem Cha.dbl_ok{x:List Nat}(h:Cha.Ok x):∀r,Cha.Ok (Cha.dbl x r)
 |0=>h
 |r+1=>Cha.inner_ok (Cha.dbl_ok h r) 8
theorem Cha.init_ok(key nonce:List UInt8)(c:Nat)(hc:c<4294967296):Cha.Ok (Cha.init key nonce c):=by
 refine⟨by simp[Cha.init,Cha.words],fun i=>?_⟩
 have:∀v∈Cha.init key nonce c,v<4294967296:=by
  intro v E
  simp only[Cha.init,Cha.words,List.mem_append,qC]at E
  rcases E with((E|⟨j,_,rfl⟩)|E)|⟨j,_,rfl⟩
  ·simp at E;omega
  ·exact Cha.word_lt _ _
  ·simp at E;omega
  ·exact Cha.word_lt _ _
 rw[List.getD]
 cases h:(Cha.init key nonce c)[i]? with
 |none=>decide
 |some v=>exact this v (qA h)
theorem Kg{x:List Nat}{i:Nat}(hi:i<x.length):(x.map natV)[i]?=some (.int .i64 ((x.getD i 0:Nat):Int)):=by
 rw[qv,List.getD,qj hi];rfl
theorem natV_set(x:List Nat)(i v:Nat):(x.map natV).set i (.int .i64 (v:Int))=(x.set i v).map natV:=by
 rw[List.map_set];rfl
theorem new_int4(a b c d:Int):JF qc 22 4 [(0,.int .i64 a),(1,.int .i64 b),(2,.int .i64 c),(3,.int .i64 d)]=some (.cells false 1 [.int .i64 a,.int .i64 b,.int .i64 c,.int .i64 d]):=by kernel_rfl
theorem le_length:∀(n w:Nat),(Cha.le w n).length=n
 |0,_=>rfl
 |n+1,w=>by simp[Cha.le,le_length n]
theorem le_get:∀(w n e:Nat),e<n→(Cha.le w n)[e]?=some (UInt8.ofNat (w/256^e%256))
 |w,0,e,h=>by omega
 |w,n+1,0,h=>by simp[Cha.le]
 |w,n+1,e+1,h=>by
  simp only[Cha.le,qf]
  rw[le_get (w/256) n e (by omega),Nat.pow_succ,Nat.mul_comm (256^e) 256,←Nat.div_div_eq_div_mul]
theorem outN_length(x s:List Nat):∀n,(Cha.outN x s n).length=4*n
 |0=>rfl
 |n+1=>by
  have:Cha.outN x s (n+1)=Cha.outN x s n++Cha.le (Cha.add (x.getD n 0) (s.getD n 0)) 4:=by simp[Cha.outN,qu]
  rw[this,qd,outN_length x s n,le_length];omega
theorem new_sl8(n0 n1 n2 n3 n4 n5 n6 n7:Nat):JF qc 289 8 [(0,.slice (some ⟨n0,0,none⟩) 4 4),(1,.slice (some ⟨n1,0,none⟩) 4 4),(2,.slice (some ⟨n2,0,none⟩) 4 4),(3,.slice (some ⟨n3,0,none⟩) 4 4),(4,.slice (some ⟨n4,0,none⟩) 4 4),(5,.slice (some ⟨n5,0,none⟩) 4 4),(6,.slice (some ⟨n6,0,none⟩) 4 4),(7,.slice (some ⟨n7,0,none⟩) 4 4)]=
 some (.cells false 1 [.slice (some ⟨n0,0,none⟩) 4 4,.slice (some ⟨n1,0,none⟩) 4 4,.slice (some ⟨n2,0,none⟩) 4 4,.slice (some ⟨n3,0,none⟩) 4 4,.slice (some ⟨n4,0,none⟩) 4 4,.slice (some ⟨n5,0,none⟩) 4 4,.slice (some ⟨n6,0,none⟩) 4 4,.slice (some ⟨n7,0,none⟩) 4 4]):=by kernel_rfl
theorem inf_sl:qc.info? 22=some Tryz.t22:=by kernel_rfl
theorem sl_size:Tryz.t22.size=1:=rfl
theorem block_spec(m:Mem)(key nonce:ByteArray)(c:Nat)(hk:key.size=32)(hn:nonce.size=12)(hc:c<4294967296):
 Abs.Spec qc 208 [.string key,.string nonce,.int .i64 (c:Int)] m fun v m'=>Sl m' v (J5 (Cha.block key.data.toList nonce.data.toList c))∧Grows m m'∧(∀g l c,v=.slice (some ⟨g,0,none⟩) l c→m.size≤g):=by
 obtain⟨S,hS⟩:∃S,S=Cha.init key.data.toList nonce.data.toList c:=⟨_,rfl⟩
 have ar:Cha.Ok S:=by rw[hS];exact Cha.init_ok _ _ _ hc
 refine Abs.Spec.walk Tryz.func208 (by rfl) _ Tryz.results208 _ Tryz.ntmps208 (by simp) ?_
 refine J4 (J2 ?_)
 simp only[zS,reduceIte,yQ,yW,yX,yZ,yJ,yK,yV]
 refine J4 (J2 ?_)
 simp only[zS,reduceIte,yQ,yW,yX,yZ,yJ,yK,yV,new_int4]
 have h0:Sl (m.push (.cells false 1 [.int .i64 1634760805,.int .i64 857760878,.int .i64 2036477234,.int .i64 1797285236])) (.slice (some ⟨m.size,0,none⟩) 4 4) [.int .i64 1634760805,.int .i64 857760878,.int .i64 2036477234,.int .i64 1797285236]:=Sl.block rfl (Mem.get_push_new _ _)
 have g0:Grows m (m.push (.cells false 1 [.int .i64 1634760805,.int .i64 857760878,.int .i64 2036477234,.int .i64 1797285236])):=(Grows.refl m).push _
 have n0:∀g l c,Value.slice (some ⟨m.size,0,none⟩) 4 4=.slice (some ⟨g,0,none⟩) l c→m.size≤g:=fun g l c e=>by cases e;exact qy _
 generalize m.push (.cells false 1 [.int .i64 1634760805,.int .i64 857760878,.int .i64 2036477234,.int .i64 1797285236])=M0 at*
 obtain⟨a0,br⟩:∃v,v=Value.slice (some ⟨m.size,0,none⟩) 4 4:=⟨_,rfl⟩
 have bR:∃g,a0=.slice (some ⟨g,0,none⟩) 4 4:=⟨_,br⟩
 rw[←br]at h0 n0 ⊢
 clear br
 refine J4 (J2 ?_)
 simp only[zS,reduceIte,yQ,yW,yX,yZ,yJ,yK,yV]
 refine⟨by kernel_rfl,_,words_spec M0 key (by omega),?_⟩
 rintro w1 M1 ⟨bs,bp,bM⟩
 rw[hk]at bs
 obtain⟨cq,be,ba⟩:=bs.at (by simp[Cha.words])
 have bG:((Cha.words key.data.toList (32/4)).map natV).length=8:=by simp[Cha.words]
 have bF:Sl M1 a0 [.int .i64 1634760805,.int .i64 857760878,.int .i64 2036477234,.int .i64 1797285236]:=by
  rcases h0 with⟨_,h⟩|⟨g,h,h'⟩
  ·cases h
  ·exact .inr ⟨g,h,bp.2 _ _ h'⟩
 obtain⟨a1,M2,ao,bK,aZ,aB,_⟩:=Sl.appL Tryz.underlying22 Zw int_zero XZ rfl bF ba (by omega) (g0.trans bp) n0 (by rw[int_bytes,bG];decide) (by rw[bG];decide)
 rw[be]
 simp only[ao,zS,reduceIte,yQ,yW,yX,yZ,yJ,yK,yV]
 have bz:=bK.app_int aZ aB (.int .i64 (c:Int)) (by simp[Cha.words])
 obtain⟨a2,M3,aA,hs2,aX,aC⟩:=bz
 refine J4 (J2 ?_)
 simp only[zS,reduceIte,yQ,yW,yX,yZ,yJ,yK,yV,new_int,aA]
 refine J4 (J2 ?_)
 simp only[zS,reduceIte,yQ,yW,yX,yZ,yJ,yK,yV]
 refine⟨by kernel_rfl,_,words_spec M3 nonce (by omega),?_⟩
 rintro w2 M4 ⟨bn,bq,bW⟩
 rw[hn]at bn
 obtain⟨cF,bd,bb⟩:=bn.at (by simp[Cha.words])
 have bH:((Cha.words nonce.data.toList (12/4)).map natV).length=3:=by simp[Cha.words]
 have bg:Sl M4 a2 ([.int .i64 1634760805,.int .i64 857760878,.int .i64 2036477234,.int .i64 1797285236]++(Cha.words key.data.toList (32/4)).map natV++[.int .i64 (c:Int)]):=by
  rcases hs2 with⟨_,h⟩|⟨g,h,h'⟩
  ·simp at h
  ·exact .inr ⟨g,h,bq.2 _ _ h'⟩
 obtain⟨a3,M5,aG,bm,aJ,aD,_⟩:=Sl.appL Tryz.underlying22 Zw int_zero XZ rfl bg bb (by omega) (aX.trans bq) aC (by rw[int_bytes,bH];simp[Cha.words]) (by rw[bH];simp[Cha.words])
 rw[bd]
 simp only[aG,zS,reduceIte,yQ,yW,yX,yZ,yJ,yK,yV]
 have bT:[.int .i64 1634760805,.int .i64 857760878,.int .i64 2036477234,.int .i64 1797285236]++(Cha.words key.data.toList (32/4)).map natV++[.int .i64 (c:Int)]++(Cha.words nonce.data.toList (12/4)).map natV=S.map natV:=by
  rw[hS];simp[Cha.init,natV]
 rw[bT]at bm
 have aa:(S.map natV).length=16:=by rw[qk,ar.1]
 obtain⟨gs,rfl,aN⟩:=bm.at (by omega)
 rw[aa]
 have c9:=aD gs _ _ rfl
 clear bR h0 g0 n0 bs be ba bF bK aZ aB ao aA hs2 aX aC bn bd bb bg aG aD bm bp bM bq bW
 refine J4 (J2 ?_)
 simp only[zS,reduceIte,yQ,yW,yX,yZ,yJ,yK,yV]
 obtain⟨a4,M6,ac,bl,bf,az,am⟩:=Sl.appL Tryz.underlying22 Zw int_zero XZ rfl (s:=.slice none 0 0) (xs:=[]) (.inl ⟨rfl,rfl⟩) aN (by omega) (Grows.refl M5) (fun g l c e=>by cases e) (by rw[int_bytes,aa];decide) (by rw[aa];decide)
 rw[aa]at ac
 rw[List.nil_append]at bl
 obtain⟨gx,rfl,aU⟩:=bl.at (by omega)
 have aK:=am gs _ (fun l c e=>by cases e) aN
 have c8:=az gx _ _ rfl
 rw[aa]at ac
 refine J4 (J2 ?_)
 simp only[zS,reduceIte,yQ,yW,yX,yZ,yJ,yK,yV,ac]
 have aO:gs≠gx:=by have:=Mem.get_lt aN;omega
 have an:m.size≤gx:=by have:=aJ.1;omega
 have bE:=aJ.trans bf
 clear am az bl ac aJ bf aN
 refine J4 (J2 ?_)
 simp only[zS,reduceIte,yQ,yW,yX,yZ,yJ,yK,yV,new_int4,new_sl8,Mem.size_push]
 obtain⟨M7,al⟩:∃M7,M7=M6.app [some (.cells false 1 [.int .i64 0,.int .i64 4,.int .i64 8,.int .i64 12]),some (.cells false 1 [.int .i64 1,.int .i64 5,.int .i64 9,.int .i64 13]),some (.cells false 1 [.int .i64 2,.int .i64 6,.int .i64 10,.int .i64 14]),some (.cells false 1 [.int .i64 3,.int .i64 7,.int .i64 11,.int .i64 15]),some (.cells false 1 [.int .i64 0,.int .i64 5,.int .i64 10,.int .i64 15]),some (.cells false 1 [.int .i64 1,.int .i64 6,.int .i64 11,.int .i64 12]),some (.cells false 1 [.int .i64 2,.int .i64 7,.int .i64 8,.int .i64 13]),some (.cells false 1 [.int .i64 3,.int .i64 4,.int .i64 9,.int .i64 14]),
  some (.cells false 1 [.slice (some ⟨M6.size,0,none⟩) 4 4,.slice (some ⟨M6.size+1,0,none⟩) 4 4,.slice (some ⟨M6.size+1+1,0,none⟩) 4 4,.slice (some ⟨M6.size+1+1+1,0,none⟩) 4 4,.slice (some ⟨M6.size+1+1+1+1,0,none⟩) 4 4,.slice (some ⟨M6.size+1+1+1+1+1,0,none⟩) 4 4,.slice (some ⟨M6.size+1+1+1+1+1+1,0,none⟩) 4 4,.slice (some ⟨M6.size+1+1+1+1+1+1+1,0,none⟩) 4 4])]:=⟨_,rfl⟩
 have aH:∀(M:Mem)(b0 b1 b2 b3 b4 b5 b6 b7 b8:Blk),((((((((M.push b0).push b1).push b2).push b3).push b4).push b5).push b6).push b7).push b8=M.app [some b0,some b1,some b2,some b3,some b4,some b5,some b6,some b7,some b8]:=fun M b0 b1 b2 b3 b4 b5 b6 b7 b8=>by
  simp[Mem.push,Mem.app]
 rw[aH,←al]
 obtain⟨B,hB⟩:∃B,B=M6.size:=⟨_,rfl⟩
 have O:∀r,r<8→M7.get (B+r)=some (.cells false 1 ((Cha.rows.getD r []).map natV)):=by
  intro r hr
  rw[al]
  refine app_get_new (by omega) ?_
  rw[hB,show M6.size+r-M6.size=r by omega]
  have:r=0∨r=1∨r=2∨r=3∨r=4∨r=5∨r=6∨r=7:=by omega
  rcases this with rfl|rfl|rfl|rfl|rfl|rfl|rfl|rfl<;>rfl
 obtain⟨R,hR⟩:∃R:List Value,R=[.slice (some ⟨M6.size,0,none⟩) 4 4,.slice (some ⟨M6.size+1,0,none⟩) 4 4,.slice (some ⟨M6.size+1+1,0,none⟩) 4 4,.slice (some ⟨M6.size+1+1+1,0,none⟩) 4 4,.slice (some ⟨M6.size+1+1+1+1,0,none⟩) 4 4,.slice (some ⟨M6.size+1+1+1+1+1,0,none⟩) 4 4,.slice (some ⟨M6.size+1+1+1+1+1+1,0,none⟩) 4 4,.slice (some ⟨M6.size+1+1+1+1+1+1+1,0,none⟩) 4 4]:=⟨_,rfl⟩
 have c5:∀r,r<8→R[r]?=some (.slice (some ⟨B+r,0,none⟩) 4 4):=by
  intro r hr
  rw[hR,hB]
  have:r=0∨r=1∨r=2∨r=3∨r=4∨r=5∨r=6∨r=7:=by omega
  rcases this with rfl|rfl|rfl|rfl|rfl|rfl|rfl|rfl<;>rfl
 obtain⟨g9,bo⟩:∃g9,g9=M6.size+1+1+1+1+1+1+1+1:=⟨_,rfl⟩
 have h9:M7.get g9=some (.cells false 1 R):=by
  rw[al]
  refine app_get_new (by omega) ?_
  rw[bo,show M6.size+1+1+1+1+1+1+1+1-M6.size=8 by omega,hR]
  rfl
 have a6:M7.get gs=some (.cells false 1 (S.map natV)):=by rw[al,app_get_old (Mem.get_lt aK)];exact aK
 have I:M7.get gx=some (.cells false 1 (S.map natV)):=by rw[al,app_get_old (Mem.get_lt aU)];exact aU
 have Y:Grows m M7:=bE.trans (by
  rw[al]
  exact⟨by simp[Mem.app,Mem.size],fun b x hb=>by rw[app_get_old (Mem.get_lt hb)];exact hb⟩)
 have ci:gx<B:=by rw[hB];exact Mem.get_lt aU
 rw[←bo]
 have ck:g9=B+8:=by omega
 clear al aH aK aU bE bo hB hR
 refine J4 (J4 (J2 ?_))
 simp only[zS,reduceIte,yQ,yW,yX,yZ,yJ,yK,yV]
 refine Jv (Qy [7,8,9,10] (fun k f M=>∃n:Nat,n+k=10∧f=[(7,.slice (some ⟨gs,0,none⟩) 16 16),(8,.slice (some ⟨gx,0,none⟩) 16 16),(9,.slice (some ⟨g9,0,none⟩) 8 8),(10,.int .i64 (n:Int))]∧
  M.get gs=some (.cells false 1 (S.map natV))∧M.get gx=some (.cells false 1 ((Cha.dbl S n).map natV))∧M.get g9=some (.cells false 1 R)∧(∀r,r<8→M.get (B+r)=some (.cells false 1 ((Cha.rows.getD r []).map natV)))∧Grows m M) 10 ?_ ?_)
 ·simp only[zS,reduceIte,yQ,yW,yX,yZ,yJ,yK,yV]
  exact⟨0,rfl,rfl,a6,I,h9,O,Y⟩
 ·clear a6 I h9 O Y
  rintro k f M ⟨n,cn,rfl,a6,I,h9,O,Y⟩
  have aT:=Cha.dbl_ok ar n
  refine J4 (J4 (J2 ?_))
  simp only[zS,reduceIte,yQ,yW,yX,yZ,yJ,yK,yV]
  refine Q2 (decide ((n:Int)<10)) (by rfl) (fun hc=>Q5 ?_) (fun hc=>QF ?_)
  ·simp only[zS,reduceIte,yQ,yW,yX,yZ,yJ,yK,yV]
   have cD:n<10:=by have:=of_decide_eq_true hc;omega
   have xn:IntKind.i64.wrap ((n:Int)+1)=((n+1:Nat):Int):=by rw[wr (by omega) (by omega)];omega
   refine J4 (Jv (J4 (J2 ?_)))
   simp only[zS,reduceIte,yQ,yW,yX,yZ,yJ,yK,yV]
   refine Jv (Qy [7,8,9,10,11] (fun k f M=>∃r:Nat,r+k=8∧f=[(7,.slice (some ⟨gs,0,none⟩) 16 16),(8,.slice (some ⟨gx,0,none⟩) 16 16),(9,.slice (some ⟨g9,0,none⟩) 8 8),(10,.int .i64 (n:Int)),(11,.int .i64 (r:Int))]∧
    M.get gs=some (.cells false 1 (S.map natV))∧M.get gx=some (.cells false 1 ((Cha.inner (Cha.dbl S n) r).map natV))∧M.get g9=some (.cells false 1 R)∧(∀r,r<8→M.get (B+r)=some (.cells false 1 ((Cha.rows.getD r []).map natV)))∧Grows m M) 8 ?_ ?_)
   ·simp only[zS,reduceIte,yQ,yW,yX,yZ,yJ,yK,yV]
    exact⟨0,rfl,rfl,a6,I,h9,O,Y⟩
   ·clear a6 I h9 O Y
    rintro k2 f M ⟨r,ct,rfl,a6,I,h9,O,Y⟩
    obtain⟨x,hx⟩:∃x,x=Cha.inner (Cha.dbl S n) r:=⟨_,rfl⟩
    have U:Cha.Ok x:=by rw[hx];exact Cha.inner_ok aT r
    rw[←hx]at I
    refine J4 (J4 (J2 ?_))
    simp only[zS,reduceIte,yQ,yW,yX,yZ,yJ,yK,yV]
    refine Q2 (decide ((r:Int)<8)) (by rfl) (fun hc=>Q5 ?_) (fun hc=>QF ?_)
    ·simp only[zS,reduceIte,yQ,yW,yX,yZ,yJ,yK,yV]
     have ak:r<8:=by have:=of_decide_eq_true hc;omega
     have xr:IntKind.i64.wrap ((r:Int)+1)=((r+1:Nat):Int):=by rw[wr (by omega) (by omega)];omega
     refine J4 (Jv (J4 (J2 ?_)))
     simp only[zS,reduceIte,yQ,yW,yX,yZ,yJ,yK,yV,zT,inf_sl,sl_size,row_slice,Tryz.underlying289,h9,qe,c5 r ak]
     refine⟨by omega,?_⟩
     have a7:=O r ak
     have aS:∀k,k<4→((Cha.rows.getD r []).map natV)[k]?=some (.int .i64 ((Cha.at r k:Nat):Int)):=fun k hk=>Kg (by
      have:∀r:Fin 8,(Cha.rows.getD r.val []).length=4:=by decide
      rw[this ⟨r,ak⟩];exact hk)
     have aW:=Cha.at_lt r 0 ak (by decide)
     have aV:=Cha.at_lt r 1 ak (by decide)
     have bc:=Cha.at_lt r 2 ak (by decide)
     have b9:=Cha.at_lt r 3 ak (by decide)
     obtain⟨i0,bj⟩:∃i,i=Cha.at r 0:=⟨_,rfl⟩
     obtain⟨i1,bu⟩:∃i,i=Cha.at r 1:=⟨_,rfl⟩
     obtain⟨i2,bk⟩:∃i,i=Cha.at r 2:=⟨_,rfl⟩
     obtain⟨i3,bh⟩:∃i,i=Cha.at r 3:=⟨_,rfl⟩
     have c0:=aS 0 (by decide)
     have c1:=aS 1 (by decide)
     have c2:=aS 2 (by decide)
     have c3:=aS 3 (by decide)
     rw[←bj]at c0 aW
     rw[←bu]at c1 aV
     rw[←bk]at c2 bc
     rw[←bh]at c3 b9
     have x0:=Kg (x:=x) (i:=i0) (by rw[U.1];exact aW)
     have x1:=Kg (x:=x) (i:=i1) (by rw[U.1];exact aV)
     have x2:=Kg (x:=x) (i:=i2) (by rw[U.1];exact bc)
     have x3:=Kg (x:=x) (i:=i3) (by rw[U.1];exact b9)
     refine J4 (Z7 hmix 33 (by kernel_rfl) (by kernel_rfl) ?_)
     simp only[zS,reduceIte,yQ,yW,yX,yZ,yJ,yK,yV,zT,a7,I,qe,qD,qE,c0,c1,c2,c3,x0,x1,x2,x3]
     refine⟨by omega,by omega,by omega,by omega,by omega,by omega,by omega,by omega,by kernel_rfl,_,quarter_at _ _ _ _ _ (U.2 _) (U.2 _) (U.2 _) (U.2 _),?_⟩
     simp only[zS,reduceIte,yQ,yW,yX,yZ,yJ,yK,yV,qf,qh]
     have aF:Cha.step x r=(((x.set i0 (Cha.quarter (x.getD i0 0) (x.getD i1 0) (x.getD i2 0) (x.getD i3 0)).1).set i1 (Cha.quarter (x.getD i0 0) (x.getD i1 0) (x.getD i2 0) (x.getD i3 0)).2.1).set i2 (Cha.quarter (x.getD i0 0) (x.getD i1 0) (x.getD i2 0) (x.getD i3 0)).2.2.1).set i3 (Cha.quarter (x.getD i0 0) (x.getD i1 0) (x.getD i2 0) (x.getD i3 0)).2.2.2:=by
      rw[bj,bu,bk,bh];rfl
     obtain⟨y,hy⟩:∃y,y=Cha.quarter (x.getD i0 0) (x.getD i1 0) (x.getD i2 0) (x.getD i3 0):=⟨_,rfl⟩
     rw[←hy]at aF ⊢
     have E:∀(M:Mem)(o:Option Blk)(b:Nat),b≠gx→(M.set gx o).get b=M.get b:=fun M o b hb=>Mem.get_set_ne (Ne.symm hb) o
     clear bj bu bk bh x0 x1 x2 x3
     refine SW_keep [7,8,9,10,11,12,13,14,15,16] ?_
     simp only[zS,reduceIte,yQ,yW,yX,yZ,yJ,yK,yV]
     have ax:=UE I (i:=i0) (by simp[U.1];omega) ((y.1:Nat):Int)
     rw[natV_set]at ax
     refine J4 (J2 ?_)
     simp only[zS,reduceIte,yQ,yW,yX,yZ,yJ,yK,yV,zT,a7,I,qe,qD,qE,c0,ax]
     refine⟨by omega,by simp;omega,?_⟩
     obtain⟨M0,ae⟩:∃M',M'=Mem.set M gx (some (.cells false 1 ((x.set i0 y.1).map natV))):=⟨_,rfl⟩
     rw[←ae]
     replace a7:M0.get (B+r)=some (.cells false 1 ((Cha.rows.getD r []).map natV)):=by rw[ae,E _ _ _ (by omega)];exact a7
     have Z:M0.get gx=some (.cells false 1 ((x.set i0 y.1).map natV)):=by rw[ae];exact Mem.get_set_same I _
     replace a6:M0.get gs=some (.cells false 1 (S.map natV)):=by rw[ae,E _ _ _ aO];exact a6
     replace h9:M0.get g9=some (.cells false 1 R):=by rw[ae,E _ _ _ (by omega)];exact h9
     replace O:∀r,r<8→M0.get (B+r)=some (.cells false 1 ((Cha.rows.getD r []).map natV)):=fun r hr=>by rw[ae,E _ _ _ (by omega)];exact O r hr
     replace Y:Grows m M0:=by rw[ae];exact Y.set an _
     clear ae ax I
     have I:=Z
     clear Z
     have ay:=UE I (i:=i1) (by simp[U.1];omega) ((y.2.1:Nat):Int)
     rw[natV_set]at ay
     refine J4 (J2 ?_)
     simp only[zS,reduceIte,yQ,yW,yX,yZ,yJ,yK,yV,zT,a7,I,qe,qD,qE,c1,ay]
     refine⟨by omega,by simp;omega,?_⟩
     obtain⟨M1,ai⟩:∃M',M'=Mem.set M0 gx (some (.cells false 1 (((x.set i0 y.1).set i1 y.2.1).map natV))):=⟨_,rfl⟩
     rw[←ai]
     replace a7:M1.get (B+r)=some (.cells false 1 ((Cha.rows.getD r []).map natV)):=by rw[ai,E _ _ _ (by omega)];exact a7
     have Z:M1.get gx=some (.cells false 1 (((x.set i0 y.1).set i1 y.2.1).map natV)):=by rw[ai];exact Mem.get_set_same I _
     replace a6:M1.get gs=some (.cells false 1 (S.map natV)):=by rw[ai,E _ _ _ aO];exact a6
     replace h9:M1.get g9=some (.cells false 1 R):=by rw[ai,E _ _ _ (by omega)];exact h9
     replace O:∀r,r<8→M1.get (B+r)=some (.cells false 1 ((Cha.rows.getD r []).map natV)):=fun r hr=>by rw[ai,E _ _ _ (by omega)];exact O r hr
     replace Y:Grows m M1:=by rw[ai];exact Y.set an _
     clear ai ay I
     have I:=Z
     clear Z
     have aI:=UE I (i:=i2) (by simp[U.1];omega) ((y.2.2.1:Nat):Int)
     rw[natV_set]at aI
     refine J4 (J2 ?_)
     simp only[zS,reduceIte,yQ,yW,yX,yZ,yJ,yK,yV,zT,a7,I,qe,qD,qE,c2,aI]
     refine⟨by omega,by simp;omega,?_⟩
     obtain⟨M2,af⟩:∃M',M'=Mem.set M1 gx (some (.cells false 1 ((((x.set i0 y.1).set i1 y.2.1).set i2 y.2.2.1).map natV))):=⟨_,rfl⟩
     rw[←af]
     replace a7:M2.get (B+r)=some (.cells false 1 ((Cha.rows.getD r []).map natV)):=by rw[af,E _ _ _ (by omega)];exact a7
     have Z:M2.get gx=some (.cells false 1 ((((x.set i0 y.1).set i1 y.2.1).set i2 y.2.2.1).map natV)):=by rw[af];exact Mem.get_set_same I _
     replace a6:M2.get gs=some (.cells false 1 (S.map natV)):=by rw[af,E _ _ _ aO];exact a6
     replace h9:M2.get g9=some (.cells false 1 R):=by rw[af,E _ _ _ (by omega)];exact h9
     replace O:∀r,r<8→M2.get (B+r)=some (.cells false 1 ((Cha.rows.getD r []).map natV)):=fun r hr=>by rw[af,E _ _ _ (by omega)];exact O r hr
     replace Y:Grows m M2:=by rw[af];exact Y.set an _
     clear af aI I
     have I:=Z
     clear Z
     have aE:=UE I (i:=i3) (by simp[U.1];omega) ((y.2.2.2:Nat):Int)
     rw[natV_set]at aE
     refine(J2 ?_)
     simp only[zS,reduceIte,yQ,yW,yX,yZ,yJ,yK,yV,zT,a7,I,qe,qD,qE,c3,aE]
     refine⟨by omega,by simp;omega,?_⟩
     obtain⟨M3,ag⟩:∃M',M'=Mem.set M2 gx (some (.cells false 1 (((((x.set i0 y.1).set i1 y.2.1).set i2 y.2.2.1).set i3 y.2.2.2).map natV))):=⟨_,rfl⟩
     rw[←ag]
     replace a7:M3.get (B+r)=some (.cells false 1 ((Cha.rows.getD r []).map natV)):=by rw[ag,E _ _ _ (by omega)];exact a7
     have Z:M3.get gx=some (.cells false 1 (((((x.set i0 y.1).set i1 y.2.1).set i2 y.2.2.1).set i3 y.2.2.2).map natV)):=by rw[ag];exact Mem.get_set_same I _
     replace a6:M3.get gs=some (.cells false 1 (S.map natV)):=by rw[ag,E _ _ _ aO];exact a6
     replace h9:M3.get g9=some (.cells false 1 R):=by rw[ag,E _ _ _ (by omega)];exact h9
     replace O:∀r,r<8→M3.get (B+r)=some (.cells false 1 ((Cha.rows.getD r []).map natV)):=fun r hr=>by rw[ag,E _ _ _ (by omega)];exact O r hr
     replace Y:Grows m M3:=by rw[ag];exact Y.set an _
     clear ag aE I
     have I:=Z
     clear Z
     refine J2 ?_
     simp only[zS,reduceIte,yQ,yW,yX,yZ,yJ,yK,yV,xr]
     refine⟨k2-1,⟨r+1,by omega,rfl,a6,?_,h9,O,Y⟩,by omega⟩
     rw[show Cha.inner (Cha.dbl S n) (r+1)=Cha.step x r by rw[hx];rfl,aF]
     exact I
    ·simp only[zS,reduceIte,yQ,yW,yX,yZ,yJ,yK,yV]
     have bJ:r=8:=by have:=of_decide_eq_false hc;omega
     subst bJ
     refine J2 ?_
     simp only[zS,reduceIte,yQ,yW,yX,yZ,yJ,yK,yV,xn]
     refine⟨k-1,⟨n+1,by omega,rfl,a6,?_,h9,O,Y⟩,by omega⟩
     rw[show Cha.dbl S (n+1)=x by rw[hx];rfl]
     exact I
  ·simp only[zS,reduceIte,yQ,yW,yX,yZ,yJ,yK,yV]
   have bt:n=10:=by have:=of_decide_eq_false hc;omega
   subst bt
   obtain⟨X,hX⟩:∃X,X=Cha.dbl S 10:=⟨_,rfl⟩
   rw[←hX]at I aT
   clear h9 O hc
   refine J4 (J2 ?_)
   simp only[zS,reduceIte,yQ,yW,yX,yZ,yJ,yK,yV]
   refine J4 (J4 (J2 ?_))
   simp only[zS,reduceIte,yQ,yW,yX,yZ,yJ,yK,yV]
   refine Jv (Qy [7,8,17,18] (fun k f M'=>∃(u:Nat)(o:Value),u+k=16∧f=[(7,.slice (some ⟨gs,0,none⟩) 16 16),(8,.slice (some ⟨gx,0,none⟩) 16 16),(17,o),(18,.int .i64 (u:Int))]∧Sl M' o (J5 (Cha.outN X S u))∧Grows M M'∧(∀g l c,o=.slice (some ⟨g,0,none⟩) l c→M.size≤g)) 16 ?_ ?_)
   ·simp only[zS,reduceIte,yQ,yW,yX,yZ,yJ,yK,yV]
    exact⟨0,_,rfl,rfl,.inl ⟨rfl,rfl⟩,Grows.refl M,fun g l c e=>by cases e⟩
   ·rintro k2 f M1 ⟨u,o,ca,rfl,ho,ah,au⟩
    refine J4 (J4 (J2 ?_))
    simp only[zS,reduceIte,yQ,yW,yX,yZ,yJ,yK,yV]
    refine Q2 (decide ((u:Int)<16)) (by rfl) (fun hc=>Q5 ?_) (fun hc=>QF ?_)
    ·simp only[zS,reduceIte,yQ,yW,yX,yZ,yJ,yK,yV]
     have bB:u<16:=by have:=of_decide_eq_true hc;omega
     have xu:IntKind.i64.wrap ((u:Int)+1)=((u+1:Nat):Int):=by rw[wr (by omega) (by omega)];omega
     have p1:=ah.2 _ _ a6
     have p2:=ah.2 _ _ I
     have d1:=Kg (x:=S) (i:=u) (by rw[ar.1];exact bB)
     have d2:=Kg (x:=X) (i:=u) (by rw[aT.1];exact bB)
     obtain⟨w,hw⟩:∃w,w=Cha.add (X.getD u 0) (S.getD u 0):=⟨_,rfl⟩
     have cG:w<4294967296:=by rw[hw];exact Cha.add_lt _ _
     refine J4 (Jv (J4 (Z7 hmix 10 (by kernel_rfl) (by kernel_rfl) ?_)))
     simp only[zS,reduceIte,yQ,yW,yX,yZ,yJ,yK,yV,zT,p1,p2,qe,d1,d2,a32 _ _ (aT.2 u) (ar.2 u),←hw]
     refine⟨by omega,by omega,?_⟩
     refine J4 (J2 ?_)
     simp only[zS,reduceIte,yQ,yW,yX,yZ,yJ,yK,yV]
     refine Jv (Qy [7,8,17,18,19,20] (fun k f M'=>∃(e:Nat)(o:Value),e+k=4∧f=[(7,.slice (some ⟨gs,0,none⟩) 16 16),(8,.slice (some ⟨gx,0,none⟩) 16 16),(17,o),(18,.int .i64 (u:Int)),(19,.int .i64 ((w/256^e:Nat):Int)),(20,.int .i64 (e:Int))]∧Sl M' o (J5 (Cha.outN X S u++(Cha.le w 4).take e))∧Grows M M'∧(∀g l c,o=.slice (some ⟨g,0,none⟩) l c→M.size≤g)) 4 ?_ ?_)
     ·simp only[zS,reduceIte,yQ,yW,yX,yZ,yJ,yK,yV]
      exact⟨0,_,rfl,by simp,by simpa using ho,ah,au⟩
     ·clear ho ah au p1 p2
      rintro k3 f M2 ⟨e,o,cJ,rfl,ho,ah,au⟩
      refine J4 (J4 (J2 ?_))
      simp only[zS,reduceIte,yQ,yW,yX,yZ,yJ,yK,yV]
      refine Q2 (decide ((e:Int)<4)) (by rfl) (fun hc=>Q5 ?_) (fun hc=>QF ?_)
      ·simp only[zS,reduceIte,yQ,yW,yX,yZ,yJ,yK,yV]
       have bV:e<4:=by have:=of_decide_eq_true hc;omega
       have xe:IntKind.i64.wrap ((e:Int)+1)=((e+1:Nat):Int):=by rw[wr (by omega) (by omega)];omega
       have cE:w/256^e≤w:=Nat.div_le_self _ _
       have bQ:Value.int .u8 (bits .and .i64 ((w/256^e:Nat):Int) 255%256)=JB (UInt8.ofNat (w/256^e%256)):=by
        have e2:=QA (w/256^e) 255 (by omega) (by omega)
        rw[show w/256^e&&&255=w/256^e%256 from Nat.and_two_pow_sub_one_eq_mod _ 8]at e2
        unfold JB
        congr 1
        refine(congrArg (·%256) e2).trans ?_
        rw[UInt8.toNat_ofNat']
        omega
       have bY:((w/256^e:Nat):Int).fdiv (2^min 8 IntKind.i64.bits)=((w/256^(e+1):Nat):Int):=by
        rw[ZG,Nat.pow_succ,←Nat.div_div_eq_div_mul]
        exact Int.fdiv_eq_ediv_of_nonneg _ (by decide)
       have cm:(J5 (Cha.outN X S u++(Cha.le w 4).take e)).length≤100:=by
        have h1:(Cha.outN X S u).length=4*u:=outN_length X S u
        simp only[J5,qk,qd,h1,qw]
        omega
       obtain⟨s',m2,ao,bA,bI,bw⟩:=ho.app_u8 ah au (.int .u8 (bits .and .i64 ((w/256^e:Nat):Int) 255%256)) (by omega)
       have bC:J5 (Cha.outN X S u++(Cha.le w 4).take e)++[Value.int .u8 (bits .and .i64 ((w/256^e:Nat):Int) 255%256)]=J5 (Cha.outN X S u++(Cha.le w 4).take (e+1)):=by
        rw[bQ,List.take_add_one,le_get w 4 e bV]
        simp[J5]
       rw[bC]at bA
       refine J4 (Jv (J4 (J2 ?_)))
       simp only[zS,reduceIte,yQ,yW,yX,yZ,yJ,yK,yV,zT,wrap_u8,ao]
       refine J2 ?_
       simp only[zS,reduceIte,yQ,yW,yX,yZ,yJ,yK,yV,bY]
       refine J2 ?_
       simp only[zS,reduceIte,yQ,yW,yX,yZ,yJ,yK,yV,xe]
       exact⟨k3-1,⟨e+1,s',by omega,rfl,bA,bI,bw⟩,by omega⟩
      ·simp only[zS,reduceIte,yQ,yW,yX,yZ,yJ,yK,yV]
       have bD:e=4:=by have:=of_decide_eq_false hc;omega
       subst bD
       refine J2 ?_
       simp only[zS,reduceIte,yQ,yW,yX,yZ,yJ,yK,yV,xu]
       refine⟨k2-1,⟨u+1,o,by omega,rfl,?_,ah,au⟩,by omega⟩
       have:Cha.outN X S (u+1)=Cha.outN X S u++(Cha.le w 4).take 4:=by
        rw[hw];simp[Cha.outN,qu,Cha.le]
       rw[this]
       exact ho
    ·simp only[zS,reduceIte,yQ,yW,yX,yZ,yJ,yK,yV]
     have bv:u=16:=by have:=of_decide_eq_false hc;omega
     subst bv
     refine J4 (J2 ?_)
     simp only[zS,reduceIte,yQ,yW,yX,yZ,yJ,yK,yV]
     refine Xa ?_
     simp only[zS,reduceIte,yQ,yW,yX,yZ,yJ,yK,yV,sAnswer,sAnswer.sRes]
     refine⟨?_,Y.trans ah,fun g l c e=>Nat.le_trans Y.1 (au g l c e)⟩
     rw[Cha.block,←hS,←hX]
     exact ho
theorem Cha.block_length(key nonce:List UInt8)(c:Nat):(Cha.block key nonce c).length=64:=by rw[Cha.block,outN_length]
def Cha.xorAt(key nonce:List UInt8)(c:Nat)(l:List UInt8)(i:Nat):UInt8:=(Cha.block key nonce (c+i/64)).getD (i%64) 0^^^l.getD i 0
def Cha.xorN(key nonce:List UInt8)(c:Nat)(l:List UInt8)(n:Nat):List UInt8:=(qq n).map (Cha.xorAt key nonce c l)
theorem aUn_not(b:Bool):aUn .not (.bool b)=some (.bool !b):=rfl
theorem cright_spec(m:Mem)(key nonce:ByteArray)(c:Nat)(hk:key.size=32)(hn:nonce.size=12)(hc:c≤4294967295):
 Abs.Spec qc 207 [.string key,.string nonce,.int .i64 (c:Int)] m fun v _=>v=.bool true:=by
 have U:JC key=32:=by rw[ZV,hk]
 have I:JC nonce=12:=by rw[ZV,hn]
 have Z:decide ((c:Int)≥0)=true:=by simp
 have O:decide ((c:Int)≤4294967295)=true:=by simp;omega
 have Y:(((32:Nat):Int)==32)=true:=rfl
 have E:(((12:Nat):Int)==12)=true:=rfl
 refine Abs.Spec.walk Tryz.func207 (by rfl) _ Tryz.results207 _ Tryz.ntmps207 (by simp) ?_
 refine J4 (J2 ?_)
 simp only[zS,reduceIte,yQ,yW,yX,yZ,yJ,yK,yV]
 refine J4 (J2 ?_)
 simp only[zS,reduceIte,yQ,yW,yX,yZ,yJ,yK,yV,zT,U,I,Z,O,Y,E,Region.wanted,beq_self_eq_true,qf,qh]
 refine Xa ?_
 simp only[zS,reduceIte,yQ,yW,yX,yZ,yJ,yK,yV,sAnswer,sAnswer.sRes]
theorem cright_at(M:Mem)(key nonce:ByteArray)(c:Nat)(hk:key.size=32)(hn:nonce.size=12)(hc:c≤4294967295):
 Abs.Spec qc 207 [.string key,.string nonce,.int .i64 (c:Int)] M fun v M'=>v=.bool true∧M'=M:=
 Abs.Spec.of_flat (by intro x hx;simp at hx;rcases hx with rfl|rfl|rfl<;>rfl) rfl fun w=>Calls.of_flat_val (by intro x hx;simp at hx;rcases hx with rfl|rfl|rfl<;>rfl) rfl (cright_spec ⟨[]⟩ key nonce c hk hn hc) w
theorem xor_spec(m:Mem)(key nonce s:ByteArray)(c:Nat)(hk:key.size=32)(hn:nonce.size=12)(hc:c≤1000)(hs:s.size≤1000000)(hs0:0<s.size):
 Abs.Spec qc 164 [.string key,.string nonce,.int .i64 (c:Int),.string s] m fun v _=>v=.tuple #[.string (str (Cha.xorN key.data.toList nonce.data.toList c s.data.toList s.size)),.int .i64 0]:=by
 obtain⟨xs,a8⟩:∃xs,xs=Cha.xorN key.data.toList nonce.data.toList c s.data.toList:=⟨_,rfl⟩
 have al:∀n,(xs n).length=n:=fun n=>by rw[a8];simp[Cha.xorN]
 have au:JC s=s.size:=ZV s
 obtain⟨U,aC⟩:∃U,U=(s.size+63)/64:=⟨_,rfl⟩
 rw[←a8]
 have w1:IntKind.i64.wrap ((s.size:Int)+63)=((s.size+63:Nat):Int):=by rw[wr (by omega) (by omega)];omega
 have w2:IntKind.i64.wrap (((s.size+63:Nat):Int).tdiv 64)=(U:Int):=by
  have:((s.size+63:Nat):Int).tdiv 64=((((s.size+63)/64:Nat)):Int):=rfl
  rw[this,←aC,wr (by omega) (by omega)]
 have w3:IntKind.i64.wrap ((U:Int)-1)=((U-1:Nat):Int):=by rw[wr (by omega) (by omega)];omega
 have w4:IntKind.i64.wrap (4294967295-(c:Int))=((4294967295-c:Nat):Int):=by rw[wr (by omega) (by omega)];omega
 have q0:((64:Int)=0)=False:=by simp
 refine Abs.Spec.walk Tryz.func164 (by rfl) _ Tryz.results164 _ Tryz.ntmps164 (by simp) ?_
 refine J4 (J2 ?_)
 simp only[zS,reduceIte,yQ,yW,yX,yZ,yJ,yK,yV]
 refine J4 (J4 (J2 ?_))
 simp only[zS,reduceIte,yQ,yW,yX,yZ,yJ,yK,yV]
 refine⟨by kernel_rfl,_,cright_at _ key nonce c hk hn (by omega),?_⟩
 rintro _ M1 ⟨rfl,hM⟩
 simp only[zS,reduceIte,yQ,yW,yX,yZ,yJ,yK,yV,aUn_not,Bool.not_true]
 refine Q2 false (by rfl) (fun h=>by cases h) (fun _=>Q5 ?_)
 simp only[zS,reduceIte,yQ,yW,yX,yZ,yJ,yK,yV]
 refine J4 (J2 ?_)
 simp only[zS,reduceIte,yQ,yW,yX,yZ,yJ,yK,yV,zT,au,w1,q0,w2]
 refine J4 (J4 (J2 ?_))
 simp only[zS,reduceIte,yQ,yW,yX,yZ,yJ,yK,yV,w3,w4]
 refine Q2 (decide (((U-1:Nat):Int)>((4294967295-c:Nat):Int))) (by rfl) (fun h=>by have:=of_decide_eq_true h;omega) (fun _=>Q5 ?_)
 simp only[zS,reduceIte,yQ,yW,yX,yZ,yJ,yK,yV]
 refine J4 (J2 ?_)
 simp only[zS,reduceIte,yQ,yW,yX,yZ,yJ,yK,yV]
 refine J4 (J4 (J2 ?_))
 simp only[zS,reduceIte,yQ,yW,yX,yZ,yJ,yK,yV]
 refine Jv (Qy [0,1,2,3,10,11,12] (fun n f M=>∃(k:Nat)(o:Value),k+n=U∧f=[(0,.string key),(1,.string nonce),(2,.int .i64 (c:Int)),(3,.string s),(10,.int .i64 (U:Int)),(11,o),(12,.int .i64 (k:Int))]∧Sl M o (J5 (xs (min (64*k) s.size)))∧Grows m M∧(∀g l c,o=.slice (some ⟨g,0,none⟩) l c→m.size≤g)) U ?_ ?_)
 ·simp only[zS,reduceIte,yQ,yW,yX,yZ,yJ,yK,yV]
  refine⟨0,_,by omega,rfl,.inl ⟨rfl,?_⟩,by rw[hM];exact Grows.refl m,fun g l c e=>by cases e⟩
  rw[a8];simp[Cha.xorN,J5]
 ·clear hM
  rintro n f M ⟨k,o,b8,rfl,ho,Y,E⟩
  refine J4 (J4 (J2 ?_))
  simp only[zS,reduceIte,yQ,yW,yX,yZ,yJ,yK,yV]
  refine Q2 (decide ((k:Int)<(U:Int))) (by rfl) (fun h=>Q5 ?_) (fun h=>QF ?_)
  ·simp only[zS,reduceIte,yQ,yW,yX,yZ,yJ,yK,yV]
   have aR:k<U:=by have:=of_decide_eq_true h;omega
   have ai:min (64*k) s.size=64*k:=by omega
   rw[ai]at ho
   have w5:IntKind.i64.wrap ((c:Int)+(k:Int))=((c+k:Nat):Int):=by rw[wr (by omega) (by omega)];omega
   have w6:IntKind.i64.wrap ((k:Int)+1)=((k+1:Nat):Int):=by rw[wr (by omega) (by omega)];omega
   have w7:IntKind.i64.wrap (64*(k:Int))=((64*k:Nat):Int):=by rw[wr (by omega) (by omega)];omega
   refine J4 (Jv (J4 (J2 ?_)))
   simp only[zS,reduceIte,yQ,yW,yX,yZ,yJ,yK,yV,w5]
   refine⟨by kernel_rfl,_,block_spec M key nonce (c+k) hk hn (by omega),?_⟩
   rintro vb M1 ⟨ac,ad,af⟩
   obtain⟨blk,a7⟩:∃blk,blk=Cha.block key.data.toList nonce.data.toList (c+k):=⟨_,rfl⟩
   rw[←a7]at ac
   have az:blk.length=64:=by rw[a7,Cha.block_length]
   have aa:(J5 blk).length=64:=by simp[J5,az]
   obtain⟨gb,rfl,I⟩:=ac.at (by omega)
   rw[aa]
   have ak:Sl M1 o (J5 (xs (64*k))):=by
    rcases ho with h|⟨g,h1,h2⟩
    ·exact .inl h
    ·exact .inr ⟨g,h1,ad.2 _ _ h2⟩
   have ah:∀g l c,o=.slice (some ⟨g,0,none⟩) l c→g≠gb:=by
    intro g l c e
    have h1:=af gb _ _ (by rw[aa])
    rcases ho with⟨h2,_⟩|⟨g',h2,h3⟩
    ·rw[h2]at e;cases e
    ·rw[h2]at e;cases e
     have:=Mem.get_lt h3
     omega
   clear ho ac af
   simp only[zS,reduceIte,yQ,yW,yX,yZ,yJ,yK,yV]
   refine J4 (J2 ?_)
   simp only[zS,reduceIte,yQ,yW,yX,yZ,yJ,yK,yV]
   refine Jv (Qy [0,1,2,3,10,11,12,13,14] (fun n f M'=>∃(i:Nat)(o:Value),i+n=64∧64*k+i≤s.size∧f=[(0,.string key),(1,.string nonce),(2,.int .i64 (c:Int)),(3,.string s),(10,.int .i64 (U:Int)),(11,o),(12,.int .i64 (k:Int)),(13,.slice (some ⟨gb,0,none⟩) 64 64),(14,.int .i64 (i:Int))]∧
    Sl M' o (J5 (xs (64*k+i)))∧M'.get gb=some (.cells false 1 (J5 blk))∧Grows m M'∧(∀g l c,o=.slice (some ⟨g,0,none⟩) l c→m.size≤g∧g≠gb)) 64 ?_ ?_)
   ·simp only[zS,reduceIte,yQ,yW,yX,yZ,yJ,yK,yV]
    exact⟨0,_,rfl,by omega,rfl,ak,I,Y.trans ad,fun g l c e=>⟨E g l c e,ah g l c e⟩⟩
   ·clear ak I Y ad E ah
    rintro n2 f M2 ⟨i,o,aP,ba,rfl,ho,I,Y,E⟩
    by_cases hi:i<64
    ·have e1:decide ((i:Int)<64)=true:=by simp;omega
     have w8:IntKind.i64.wrap (((64*k:Nat):Int)+(i:Int))=((64*k+i:Nat):Int):=by rw[wr (by omega) (by omega)];omega
     refine J4 (J4 (J2 ?_))
     simp only[zS,reduceIte,yQ,yW,yX,yZ,yJ,yK,yV,zT,e1,Region.wanted,beq_self_eq_true,qf,qh,w7,w8,au]
     refine Q2 (decide (((64*k+i:Nat):Int)<(s.size:Int))) (by rfl) (fun h=>Q5 ?_) (fun h=>QF ?_)
     ·simp only[zS,reduceIte,yQ,yW,yX,yZ,yJ,yK,yV]
      have ax:64*k+i<s.size:=by have:=of_decide_eq_true h;omega
      have w9:IntKind.i64.wrap ((i:Int)+1)=((i+1:Nat):Int):=by rw[wr (by omega) (by omega)];omega
      obtain⟨b,hb⟩:∃b,blk[i]?=some b:=⟨blk[i]'(by omega),qj (by omega)⟩
      have aw:(J5 blk)[i]?=some (.int .u8 (b.toNat:Int)):=by rw[J5,qv,hb];rfl
      have aj:=Abs.index_str s ((64*k+i:Nat):Int) (64*k+i) rfl ax
      obtain⟨d,hd⟩:∃d,d=s.data.toList.getD (64*k+i) 0:=⟨_,rfl⟩
      rw[←hd]at aj
      have aN:=qi b
      have aM:=qi d
      have v1:IntKind.i64.wrap (b.toNat:Int)=(b.toNat:Int):=wr (by omega) (by omega)
      have v2:IntKind.i64.wrap (d.toNat:Int)=(d.toNat:Int):=wr (by omega) (by omega)
      have ao:(J5 (xs (64*k+i))).length=64*k+i:=by simp[J5,al]
      have aH:Grows M2 M2:=Grows.refl M2
      obtain⟨s',m2,O,ar,aq,ae⟩:=ho.app_u8 Y (fun g l c e=>(E g l c e).1) (.int .u8 (bits .xor .i64 (b.toNat:Int) (d.toNat:Int)%256)) (by omega)
      have ap:J5 (xs (64*k+i))++[Value.int .u8 (bits .xor .i64 (b.toNat:Int) (d.toNat:Int)%256)]=J5 (xs (64*k+(i+1))):=by
       rw[xor_byte]
       have:xs (64*k+(i+1))=xs (64*k+i)++[b^^^d]:=by
        have aB:Cha.xorAt key.data.toList nonce.data.toList c s.data.toList (64*k+i)=b^^^d:=by
         unfold Cha.xorAt
         rw[show(64*k+i)/64=k by omega,show(64*k+i)%64=i by omega,←a7,←hd,List.getD,hb];rfl
        rw[a8,←aB,←Nat.add_assoc]
        simp[Cha.xorN,qu]
       rw[this]
       simp[J5]
      rw[ap]at ar
      have Z:m2.get gb=some (.cells false 1 (J5 blk))∧(∀g l c,s'=.slice (some ⟨g,0,none⟩) l c→g≠gb):=by
       rcases ho with⟨rfl,h0⟩|⟨g,rfl,hg⟩
       ·have:=app_nil qx Zv u8_zero XA rfl M2 (.int .u8 (bits .xor .i64 (b.toNat:Int) (d.toNat:Int)%256)) (by rw[u8_bytes];decide)
        rw[this]at O
        cases O
        have a2:=Mem.get_lt I
        refine⟨?_,fun g l c e=>by cases e;omega⟩
        rw[Mem.get_push_old (by rw[Mem.size_push];omega),Mem.get_push_old a2];exact I
       ·have:=app_one qx Zv u8_zero XA rfl M2 (.int .u8 (bits .xor .i64 (b.toNat:Int) (d.toNat:Int)%256)) hg rfl (by rw[u8_bytes,ao];omega) (by rw[ao];omega)
        rw[this]at O
        cases O
        have a2:=Mem.get_lt I
        have am:=(E g _ _ rfl).2
        refine⟨?_,fun g l c e=>by cases e;omega⟩
        rw[Mem.get_push_old (by rw[Mem.size_set,Mem.size_push];omega),Mem.get_set_ne am,Mem.get_push_old a2];exact I
      refine J4 (Jv (Z7 hmix 16 (by kernel_rfl) (by kernel_rfl) ?_))
      simp only[zS,reduceIte,yQ,yW,yX,yZ,yJ,yK,yV,zT,I,qe,aw,w7,w8,aj,v1,v2,wrap_u8,O]
      refine⟨by omega,?_⟩
      refine J2 ?_
      simp only[zS,reduceIte,yQ,yW,yX,yZ,yJ,yK,yV,w9]
      exact⟨n2-1,⟨i+1,s',by omega,by omega,rfl,ar,Z.1,aq,fun g l c e=>⟨ae g l c e,Z.2 g l c e⟩⟩,by omega⟩
     ·simp only[zS,reduceIte,yQ,yW,yX,yZ,yJ,yK,yV]
      have aI:64*k+i=s.size:=by have:=of_decide_eq_false h;omega
      refine J2 ?_
      simp only[zS,reduceIte,yQ,yW,yX,yZ,yJ,yK,yV,w6]
      refine⟨n-1,⟨k+1,o,by omega,rfl,?_,Y,fun g l c e=>(E g l c e).1⟩,by omega⟩
      rw[show min (64*(k+1)) s.size=64*k+i by omega]
      exact ho
    ·have e1:decide ((i:Int)<64)=false:=by simp;omega
     refine J4 (J4 (J2 ?_))
     have aA:((some false:Option Bool)==some true)=false:=rfl
     simp only[zS,reduceIte,yQ,yW,yX,yZ,yJ,yK,yV,zT,e1,aA,Region.wanted,qf,qh]
     refine Q2 false (by rfl) (fun h=>by cases h) (fun h=>QF ?_)
     simp only[zS,reduceIte,yQ,yW,yX,yZ,yJ,yK,yV]
     refine J2 ?_
     simp only[zS,reduceIte,yQ,yW,yX,yZ,yJ,yK,yV,w6]
     refine⟨n-1,⟨k+1,o,by omega,rfl,?_,Y,fun g l c e=>(E g l c e).1⟩,by omega⟩
     rw[show min (64*(k+1)) s.size=64*k+i by omega]
     exact ho
  ·simp only[zS,reduceIte,yQ,yW,yX,yZ,yJ,yK,yV]
   have ag:k=U:=by have:=of_decide_eq_false h;omega
   subst ag
   rw[show min (64*k) s.size=s.size by omega]at ho
   obtain⟨go,rfl,av⟩:=ho.at (by simp[J5,al,hs0])
   refine J4 (J2 ?_)
   simp only[zS,reduceIte,yQ,yW,yX,yZ,yJ,yK,yV,zT,to_str (n:=(J5 (xs s.size)).length) av (by simp[J5])]
   refine Xa ?_
   simp only[zS,reduceIte,yQ,yW,yX,yZ,yJ,yK,yV,sAnswer,sAnswer.sRes]
def QD(s:List UInt8)(i:Nat):List UInt8:=(qq 192).map fun j=>s.getD (192*i+j) 0
def UT(s:List UInt8):List (List UInt8):=(qq ((s.length+191)/192)).map (QD s)
def nonceV(i:Nat):List UInt8:=[83,76,68,71]++Sha.fixed (i:Nat) 8
def sealV(enc mac:List UInt8)(i:Nat)(c:List UInt8):List UInt8:=
 Cha.xorN enc (nonceV i) 1 c 192++Sha.tag mac (Sha.fixed (i:Nat) 4++Cha.xorN enc (nonceV i) 1 c 192)
def Vd(enc mac s:List UInt8):List (List UInt8):=(qq ((s.length+191)/192)).map fun i=>sealV enc mac i (QD s i)
def headOf0(secret salt:List UInt8)(id:Int)(s:List UInt8)(raw:Int)(bl:List (List UInt8)):Header:=⟨id,str salt,(bl.length:Nat),(s.length:Nat),raw,str (UG bl),⟨#[]⟩⟩
def Vl(secret salt:List UInt8)(id:Int)(s:List UInt8)(raw:Int):Arc:=
 ⟨{ headOf0 secret salt id s raw (Vd (Sha.encKey secret salt) (Sha.macKey secret salt) s)with
  tag:=str (Sha.tag (Sha.headKey secret) (headOf0 secret salt id s raw (Vd (Sha.encKey secret salt) (Sha.macKey secret salt) s)).fields.data.toList) },
  Vd (Sha.encKey secret salt) (Sha.macKey secret salt) s⟩
theorem chunkAt_len(s:List UInt8)(i:Nat):(QD s i).length=192:=by simp[QD]
theorem xorN_len(k n:List UInt8)(c:Nat)(s:List UInt8)(m:Nat):(Cha.xorN k n c s m).length=m:=by simp[Cha.xorN]
theorem sealV_len(enc mac:List UInt8)(i:Nat)(c:List UInt8):(sealV enc mac i c).length=224:=by
 unfold sealV
 rw[qd,xorN_len,Sha.tag_length]
theorem sealed_len(enc mac s:List UInt8):(Vd enc mac s).length=(s.length+191)/192:=by simp[Vd]
theorem sealed_size(enc mac s:List UInt8):∀b∈Vd enc mac s,b.length=224:=by
 intro b hb
 unfold Vd at hb
 obtain⟨i,_,rfl⟩:=qC.1 hb
 exact sealV_len _ _ _ _
theorem rootL_len:∀(n:Nat)(l:List (List UInt8)),l.length≤n→(∀x∈l,x.length=32)→(Xb l).length=32:=by
 intro n
 induction n with
 |zero=>
  intro l hl _
  obtain rfl:l=[]:=List.eq_nil_of_length_eq_zero (by omega)
  unfold Xb
  exact Sha.sum_length _
 |succ n ih=>
  intro l hl h
  match l,hl,h with
  | [],_,_=>unfold Xb;exact Sha.sum_length _
  | [a],_,h=>unfold Xb;exact h a (by simp)
  |a::b::r,_,_=>unfold Xb;exact Sha.sum_length _
theorem leafV_len(b:List UInt8):(Ub b).length=32:=Sha.sum_length _
theorem rootV_len(l:List (List UInt8)):(UG l).length=32:=rootL_len _ _ (qy _) fun x hx=>by
 obtain⟨b,_,rfl⟩:=qC.1 hx
 exact leafV_len b
theorem sameB_refl(l:List UInt8):sameB l l=true:=by simp[sameB]
theorem arcOf_ok(secret salt:List UInt8)(id:Int)(s:List UInt8)(raw:Int)(hs:salt.length=16)(hid:1≤id∧id≤4294967295)(h1:1≤s.length)(h2:s.length≤49152)(hr:1≤raw∧raw≤134217728):
 ArcOk (Sha.headKey secret) (Vl secret salt id s raw):=by
 have E:=sealed_len (Sha.encKey secret salt) (Sha.macKey secret salt) s
 obtain⟨B,hB⟩:∃B,B=Vd (Sha.encKey secret salt) (Sha.macKey secret salt) s:=⟨_,rfl⟩
 have I:Vl secret salt id s raw=⟨{ headOf0 secret salt id s raw B with tag:=str (Sha.tag (Sha.headKey secret) (headOf0 secret salt id s raw B).fields.data.toList) },B⟩:=by rw[hB];rfl
 rw[←hB]at E
 have O:(Vl secret salt id s raw).head.okP:=by
  rw[I]
  refine⟨hid.1,hid.2,?_,?_,?_,?_,?_,?_,hr.1,hr.2⟩
  ·show(str salt).size=16;rw[str_size];exact hs
  ·show(str (UG B)).size=32;rw[str_size];exact rootV_len B
  ·show(str _).size=32;rw[str_size,Sha.tag_length]
  ·show(1:Int)≤(s.length:Nat);omega
  ·show((s.length:Nat):Int)≤49152;omega
  ·show((B.length:Nat):Int)=((s.length:Nat)+191)/192
   rw[E];omega
 refine⟨O,?_,?_,?_,?_⟩
 ·unfold Header.verify
  rw[if_neg (by rw[(Header.check_zero _).2 O];decide)]
  have:sameB (Sha.tag (Sha.headKey secret) (Vl secret salt id s raw).head.fields.data.toList) (Vl secret salt id s raw).head.tag.data.toList=true:=by
   rw[I]
   exact sameB_refl _
  rw[if_pos this]
 ·rw[I];rfl
 ·rw[I,hB];exact sealed_size _ _ _
 ·rw[I];rfl
theorem arcOf_id(secret salt:List UInt8)(id:Int)(s:List UInt8)(raw:Int):(Vl secret salt id s raw).head.id=id:=rfl
theorem arcOf_len(secret salt:List UInt8)(id:Int)(s:List UInt8)(raw:Int):(Vl secret salt id s raw).blocks.length=(s.length+191)/192:=sealed_len _ _ _
def Jq(h:Header)(V:Value):List Value:=h.cells++[V]
def Kd(d:Dsk)(D:Option Dep)(id:Int):Arc×Int:=match D with|none=>(noArc,8)|some D=>D.read d id
theorem dread_spec(P p q g:Nat)(d:Dsk)(D:Option Dep)(v:Value)(id:Int)(M:Mem)(h:DepOr M P p q g d D v):
 Abs.Spec qc 19 [v,.int .i64 id] M fun u M'=>∃V,u=.tuple #[.agg (Jq (Kd d D id).1.head V).toArray,.int .i64 (Kd d D id).2]∧QE M.size M' V (Kd d D id).1.blocks∧More M M':=by
 refine K5 Tryz.func19 Tryz.results19 Tryz.ntmps19 fun hc hx k=>?_
 have aj:Qa qc 36=some (.cells false (J6 qc 36) (Jq noHead (.slice none 0 0))):=al_Arc
 generalize J6 qc 36=s1 at aj
 have ac:Qa qc 85=some (.cells false (J6 qc 85) noExt.cells):=al_Ext
 generalize J6 qc 85=s2 at ac
 have aa:Qj qc 36 []=some (.agg (Jq noHead (.slice none 0 0)).toArray):=by kernel_rfl
 have aA:∀(h:Header)(a:Option Addr)(n c:Nat),Qj qc 36 [(0,.agg h.cells.toArray),(1,.slice a n c)]=some (.agg (Jq h (.slice a n c)).toArray):=fun h a n c=>by kernel_rfl
 have I:∀h V,Ju 8 0 (some (.cells false s1 (Jq h V)))=some (.agg (Jq h V).toArray):=fun _ _=>rfl
 have U:∀h V,(Value.agg (Jq h V).toArray).cells.toList=Jq h V:=fun _ _=>rfl
 have Y:∀(M0:Mem)(b:Nat)(h h':Header)(V:Value)(a:Option Addr)(n c:Nat),Ji 8 M0 b 0 (Jq h' (.slice a n c)) (some (.cells false s1 (Jq h V)))=some (M0.set b (some (.cells false s1 (Jq h' (.slice a n c))))):=fun _ _ _ _ _ _ _ _=>rfl
 have ab:∀(s:Nat)(x:Ext),Ju 8 0 (some (.cells false s x.cells))=some (.agg x.cells.toArray):=fun _ _=>rfl
 have ap:∀(s:Nat)(x:Ext),Ju 7 0 (some (.cells false s x.cells))=some (.agg x.head.cells.toArray):=fun _ _=>rfl
 have an:∀x:Ext,(Value.agg x.cells.toArray).cells.toList=x.cells:=fun _=>rfl
 have ak:∀(M0:Mem)(b:Nat)(x y:Ext),Ji 8 M0 b 0 y.cells (some (.cells false s2 x.cells))=some (M0.set b (some (.cells false s2 y.cells))):=fun _ _ _ _=>rfl
 obtain⟨r,hr⟩:∃r,r=Kd d D id:=⟨_,rfl⟩
 rw[←hr]
 obtain⟨b4,ar⟩:∃b,b=M.size:=⟨_,rfl⟩
 obtain⟨M1,a2⟩:∃M1,M1=M.push (.cells false s1 (Jq noHead (.slice none 0 0))):=⟨_,rfl⟩
 have g4:M1.get b4=some (.cells false s1 (Jq noHead (.slice none 0 0))):=by rw[a2,ar,Mem.get_push_new]
 have am:More M M1:=by rw[a2];exact More.push _ _
 have aX:M1.size=M.size+1:=by rw[a2,Mem.size_push]
 have h1:=h.same am
 have af:∀(M':Mem)(h h':Header)(V V':Value),M'.get b4=some (.cells false s1 (Jq h V))→More M M'→(M'.set b4 (some (.cells false s1 (Jq h' V')))).get b4=some (.cells false s1 (Jq h' V'))∧More M (M'.set b4 (some (.cells false s1 (Jq h' V')))):=fun M' h h' V V' hg hm=>
  ⟨Mem.get_set_same hg _,fun b z hb=>by
   have:=Mem.get_lt hb
   rw[Mem.get_set_ne (by omega)];exact hm.get b z hb,by rw[Mem.size_set];exact hm.size⟩
 refine J0 (R1 @aj ?_)
 rw[←a2,←ar]
 refine J0 (R0 ?_)
 refine⟨by kernel_rfl,_,find_or P p q g d D v id M1 h1,?_⟩
 rintro _ M2 ⟨rfl,a7⟩
 have ag:=a7.get _ _ g4
 have mo:=am.trans a7
 refine S0 ?_
 cases hD:D.bind fun D=>D.ext? id with
 |none=>
  have E:r=(noArc,8):=by
   rw[hr]
   cases D with
   |none=>rfl
   |some D=>
    unfold Kd Dep.read
    simp only[Option.bind_some]at hD
    simp only[hD]
  have q1:decide ((-1:Int)<0)=true:=rfl
  simp only[Zi]
  obtain⟨gs,ms⟩:=af M2 noHead noHead (.slice none 0 0) (.slice none 0 0) ag mo
  refine J0 (J0 (R1 @q1 ?_))
  refine CT (J0 (R4 @aa @ag @U @Y ?_))
  refine T3 @Q4 @gs @I ?_
  subst E
  exact⟨_,tR _,_,rfl,OwnL.nil _ _,ms⟩
 |some y=>
  obtain⟨j,x⟩:=y
  cases D with
  |none=>cases hD
  |some D=>
  simp only[Option.bind_some]at hD
  obtain⟨rfl,h2⟩:=h1
  have h3:=h2.same a7.get
  have E:r=if(Qx d x).2≠0 then(noArc,(Qx d x).2)else(⟨x.head,(Qx d x).1⟩,0):=by
   rw[hr]
   unfold Kd Dep.read
   simp only[hD]
  obtain⟨hj,b,s',r1,_,gb⟩:=h3.extAt (XL hD).1
  obtain⟨fv,av,aw⟩:=h3.ok.fitK x (qA (XL hD).1)
  have aL:=Vq (x.head.check_zero.1 (verify_check fv))
  obtain⟨n,hn⟩:∃n:Nat,x.head.n=(n:Int):=⟨x.head.n.toNat,by omega⟩
  have q2:decide ((j:Int)<0)=false:=decide_eq_false (by omega)
  have z0:(0:Int)≤(j:Int):=by omega
  have z8:(j:Int)<((8:Nat):Int):=by omega
  have aB:(j:Int)<8:=by omega
  simp only[Zh]
  refine J0 (J0 (R1 @q2 ?_))
  refine CF (J3 ?_)
  simp only[zZ,reduceIte,yQ,yW,yX,yZ,yJ,yK,yV]
  refine J0 (J1 ?_)
  simp only[zZ,reduceIte,yQ,yW,yX,yZ,yJ,yK,yV,zDk,Jc,Jb,J9,J8,Xx,z0,z8,aB,and_self,qe,r1,gb,ab,ac,Mem.get_push_new,an,ak]
  obtain⟨b8,au⟩:∃b,b=M2.size:=⟨_,rfl⟩
  obtain⟨M3,a8⟩:∃M3,M3=(M2.push (.cells false s2 noExt.cells)).set M2.size (some (.cells false s2 x.cells)):=⟨_,rfl⟩
  rw[←a8,←au]
  have g8:M3.get b8=some (.cells false s2 x.cells):=by rw[a8,au];exact Mem.get_set_same (Mem.get_push_new _ _) _
  have a6:More M2 M3:=⟨fun b x hb=>by
   have:=Mem.get_lt hb
   rw[a8,Mem.get_set_ne (by omega),Mem.get_push_old this];exact hb,by rw[a8,Mem.size_set,Mem.size_push];omega⟩
  have h4:=h3.same a6.get
  refine J0 (R2 @g8 @ab ?_)
  refine⟨by kernel_rfl,_,blocks_spec P p q g d D M3 h4 x n hn av aw,?_⟩
  rintro _ M4 ⟨V,rfl,O,ae⟩
  obtain⟨a0,c0,hV⟩:=O.len
  subst hV
  have Z:=ae.get _ _ (a6.get _ _ ag)
  have az:=ae.get _ _ g8
  have mm:=(mo.trans a6).trans ae
  have aF:M1.size≤M3.size:=Nat.le_trans a7.size a6.size
  refine S0 ?_
  refine J0 (J0 (R0 ?_))
  refine CC ((Qx d x).2 !=0) (fun hq=>J0 (J1 ?_)) (fun hq=>J3 ?_)
  ·rw[if_pos (by simpa using hq)]at E
   obtain⟨gs,ms⟩:=af M4 noHead noHead (.slice none 0 0) (.slice none 0 0) Z mm
   refine S4 @aa @Z @U @Y ?_
   refine T3 @Q4 @gs @I ?_
   subst E
   exact⟨_,tR _,_,rfl,OwnL.nil _ _,ms⟩
  rw[if_neg (by simpa using hq)]at E
  obtain⟨gs,ms⟩:=af M4 noHead x.head (.slice none 0 0) (.slice a0 (Qx d x).1.length c0) Z mm
  simp only[zZ,reduceIte,yQ,yW,yX,yZ,yJ,yK,yV]
  refine J0 (R6 @az @ap @aA @Z @U @Y ?_)
  refine T3 @Q4 @gs @I ?_
  subst E
  refine⟨_,tR _,_,rfl,(O.same fun b y hb hy=>?_).le (by omega),ms⟩
  have:=(O.live hb).1
  rw[Mem.get_set_ne (by omega)];exact hy
theorem VC(n k:Int)(h0:0≤n)(hn:n<4611686018427387904)(hk1:0≤k)(hk:k≤8)(m:Mem):
 Abs.Spec qc 165 [.int .i64 n,.int .i64 k] m fun u M=>u=.string (str (Sha.fixed n k.toNat))∧M=m:=
 Abs.Spec.of_flat (by simp[flat]) rfl fun w=>rfixed_i n k h0 hn hk1 hk w
theorem xor_at(key nonce s:List UInt8)(c:Nat)(hk:key.length=32)(hn:nonce.length=12)(hc:c≤1000)(hs:s.length≤1000000)(hs0:0<s.length)(m:Mem):
 Abs.Spec qc 164 [.string (str key),.string (str nonce),.int .i64 (c:Int),.string (str s)] m fun u M=>u=.tuple #[.string (str (Cha.xorN key nonce c s s.length)),.int .i64 0]∧M=m:=
 Abs.Spec.of_empty (by intro x hx;simp at hx;rcases hx with rfl|rfl|rfl|rfl<;>rfl) rfl (xor_spec ⟨[]⟩ (str key) (str nonce) (str s) c (by rw[str_size];exact hk) (by rw[str_size];exact hn) hc (by rw[str_size];exact hs) (by rw[str_size];exact hs0)) m
theorem rkeys_at(secret salt:List UInt8)(h1:secret.length≤1000000)(h2:salt.length≤1000000)(m:Mem):
 Abs.Spec qc 105 [.string (str secret),.string (str salt)] m fun u M=>u=keysV secret salt∧M=m:=
 Abs.Spec.of_empty (by intro x hx;simp at hx;rcases hx with rfl|rfl<;>rfl) rfl (rkeys_spec ⟨[]⟩ (str secret) (str salt) (by rw[str_size];omega) (by rw[str_size];omega)) m
theorem right_at(enc mac head:List UInt8)(i:Nat)(he:enc.length=32)(hi:i<256)(m:Mem):
 Abs.Spec qc 163 [.agg #[.string (str enc),.string (str mac),.string (str head)],.int .i64 (i:Nat)] m fun u M=>u=.bool true∧M=m:=by
 refine Abs.Spec.of_empty (by intro x hx;simp at hx;rcases hx with rfl|rfl<;>rfl) rfl ?_ m
 refine WM Tryz.func163 Tryz.results163 Tryz.ntmps163 fun _=>?_
 have E:QO qc 98 (.agg #[.string (str enc),.string (str mac),.string (str head)])=some (.cells false (J6 qc 98) [.string (str enc),.string (str mac),.string (str head)]):=bx_Keys _ rfl
 generalize J6 qc 98=s1 at E
 have O:cellIn 0 (some (.cells false s1 [.string (str enc),.string (str mac),.string (str head)]))=some (.string (str enc)):=rfl
 have hb:JC (str enc)=32:=he
 have Y:(((32:Nat):Int)==32)=true:=rfl
 have I:decide ((i:Int)≥0)=true:=by simp
 have U:decide ((i:Int)<256)=true:=decide_eq_true (by omega)
 refine J0 (R1 @E ?_)
 refine J0 (R6 @Mem.get_push_new @O @hb @Y @I @U ?_)
 refine T0 ?_
 first|exact⟨_,tR _,rfl⟩|exact⟨_,tR _⟩|exact⟨_,tR _,rfl,rfl⟩
theorem keys_cells(a b c:List UInt8):(Value.agg #[.string (str a),.string (str b),.string (str c)]).cells.toList=[.string (str a),.string (str b),.string (str c)]:=rfl
theorem seal_at(enc mac head c:List UInt8)(i:Nat)(he:enc.length=32)(hm:mac.length=32)(hi:i<256)(hc:c.length=192)(m:Mem):
 Abs.Spec qc 107 [.agg #[.string (str enc),.string (str mac),.string (str head)],.int .i64 (i:Nat),.string (str c)] m fun u M=>u=.tuple #[.string (str (sealV enc mac i c)),.int .i64 0]∧M=m:=by
 refine Abs.Spec.of_empty (by intro x hx;simp at hx;rcases hx with rfl|rfl|rfl<;>rfl) rfl ?_ m
 refine WM Tryz.func107 Tryz.results107 Tryz.ntmps107 fun _=>?_
 have O:QO qc 98 (.agg #[.string (str enc),.string (str mac),.string (str head)])=some (.cells false (J6 qc 98) [.string (str enc),.string (str mac),.string (str head)]):=bx_Keys _ rfl
 generalize J6 qc 98=s1 at O
 have k0:cellIn 0 (some (.cells false s1 [.string (str enc),.string (str mac),.string (str head)]))=some (.string (str enc)):=rfl
 have k1:cellIn 1 (some (.cells false s1 [.string (str enc),.string (str mac),.string (str head)]))=some (.string (str mac)):=rfl
 have k3:Ju 3 0 (some (.cells false s1 [.string (str enc),.string (str mac),.string (str head)]))=some (.agg #[.string (str enc),.string (str mac),.string (str head)]):=rfl
 have hb:JC (str c)=192:=hc
 have q1:(((192:Nat):Int) !=192)=false:=rfl
 have e4:(⟨#[83,76,68,71]⟩:ByteArray)=str [83,76,68,71]:=rfl
 have Y:(Sha.fixed (i:Int) 8).length=8:=Sha.fixed_length _ _
 have f4:(Sha.fixed (i:Int) 4).length=4:=Sha.fixed_length _ _
 have xl:=xorN_len enc (nonceV i) 1 c 192
 have U:(nonceV i).length=12:=by unfold nonceV;rw[qd,Y];rfl
 have E:=xor_at enc (nonceV i) c 1 he U (by decide) (by omega) (by omega)
 rw[hc]at E
 obtain⟨X,I⟩:∃X,X=Cha.xorN enc (nonceV i) 1 c 192:=⟨_,rfl⟩
 rw[←I]at E xl
 have hS:sealV enc mac i c=X++Sha.tag mac (Sha.fixed (i:Int) 4++X):=by rw[I];rfl
 rw[hS]
 have tl:=Sha.tag_length mac (Sha.fixed (i:Int) 4++X)
 refine J0 (R1 @O ?_)
 refine J0 (J0 (R2 @Mem.get_push_new @k3 ?_))
 refine K2 @hb @q1 (right_at enc mac head i he hi _) ?_
 refine CF (J3 ?_)
 refine S0 ?_
 refine J0 (D2 11 @Mem.get_push_new @k0 ?_)
 refine⟨by kernel_rfl,_,VC (i:Nat) 8 (by omega) (by omega) (by decide) (by decide) _,?_⟩
 refine⟨by decide,?_⟩
 have t8:(8:Int).toNat=8:=rfl
 refine S4 @t8 @e4 @ZE @V3 ?_
 refine⟨by first|omega|(simp<;>omega),?_⟩
 refine⟨by kernel_rfl,_,E _,?_⟩
 refine⟨by decide,?_⟩
 refine S0 ?_
 refine J0 (D2 8 @Mem.get_push_new @k1 ?_)
 refine⟨by kernel_rfl,_,VC (i:Nat) 4 (by omega) (by omega) (by decide) (by decide) _,?_⟩
 refine⟨by decide,?_⟩
 have t4:(4:Int).toNat=4:=rfl
 refine S3 @t4 @ZE @V3 ?_
 refine⟨by first|omega|(simp<;>omega),?_⟩
 refine⟨by kernel_rfl,_,rtag_at _ (str mac) (str (Sha.fixed (i:Int) 4++X)) (by rw[str_size];omega) (by rw[str_size,qd];omega),?_⟩
 refine⟨by decide,?_⟩
 have Z:(str mac).data.toList=mac:=rfl
 have ey:(str (Sha.fixed (i:Int) 4++X)).data.toList=Sha.fixed (i:Int) 4++X:=rfl
 rw[Z,ey]
 refine S2 @ZE @V3 ?_
 refine⟨by omega,?_⟩
 refine T0 ?_
 first|exact⟨_,tR _,rfl⟩|exact⟨_,tR _⟩|exact⟨_,tR _,rfl,rfl⟩
theorem rfields_at(h:Header)(h1:0≤h.id∧h.id≤4294967295)(h2:0≤h.n∧h.n≤100000)(h3:0≤h.bytes∧h.bytes≤100000)(h4:0≤h.raw∧h.raw≤1000000000)(hs:h.salt.size≤1000000)(hr:h.root.size≤1000000)(m:Mem):
 Abs.Spec qc 166 [.agg h.cells.toArray] m fun u M=>u=.string h.fields∧M=m:=by
 refine Abs.Spec.of_empty (by intro x hx;simp at hx;subst hx;rfl) rfl ?_ m
 refine WM Tryz.func166 Tryz.results166 Tryz.ntmps166 fun _=>?_
 have bx:QO qc 34 (.agg h.cells.toArray)=some (.cells false (J6 qc 34) h.cells):=bx_Hdr _ rfl
 generalize J6 qc 34=s1 at bx
 have k0:cellIn 0 (some (.cells false s1 h.cells))=some (.int .i64 h.id):=rfl
 have k1:cellIn 1 (some (.cells false s1 h.cells))=some (.string h.salt):=rfl
 have k2:cellIn 2 (some (.cells false s1 h.cells))=some (.int .i64 h.n):=rfl
 have k3:cellIn 3 (some (.cells false s1 h.cells))=some (.int .i64 h.bytes):=rfl
 have k4:cellIn 4 (some (.cells false s1 h.cells))=some (.int .i64 h.raw):=rfl
 have k5:cellIn 5 (some (.cells false s1 h.cells))=some (.string h.root):=rfl
 obtain⟨F1,E⟩:∃F,F=Sha.fixed h.id 4:=⟨_,rfl⟩
 obtain⟨F2,U⟩:∃F,F=Sha.fixed h.n 2:=⟨_,rfl⟩
 obtain⟨F3,I⟩:∃F,F=Sha.fixed h.bytes 4:=⟨_,rfl⟩
 obtain⟨F4,O⟩:∃F,F=Sha.fixed h.raw 4:=⟨_,rfl⟩
 have l1:F1.length=4:=by rw[E];exact Sha.fixed_length _ _
 have l2:F2.length=2:=by rw[U];exact Sha.fixed_length _ _
 have l3:F3.length=4:=by rw[I];exact Sha.fixed_length _ _
 have l4:F4.length=4:=by rw[O];exact Sha.fixed_length _ _
 have a6:=fun m=>VC h.id 4 h1.1 (by omega) (by decide) (by decide) m
 have Z:=fun m=>VC h.n 2 h2.1 (by omega) (by decide) (by decide) m
 have Y:=fun m=>VC h.bytes 4 h3.1 (by omega) (by decide) (by decide) m
 have a2:=fun m=>VC h.raw 4 h4.1 (by omega) (by decide) (by decide) m
 have t4:(4:Int).toNat=4:=rfl
 have t2:(2:Int).toNat=2:=rfl
 rw[t4,←E]at a6
 rw[t2,←U]at Z
 rw[t4,←I]at Y
 rw[t4,←O]at a2
 obtain⟨S,hS⟩:∃S,h.salt=str S:=⟨h.salt.data.toList,rfl⟩
 obtain⟨T,hT⟩:∃S,h.root=str S:=⟨h.root.data.toList,rfl⟩
 have av:S.length≤1000000:=by rw[hS,str_size]at hs;exact hs
 have ax:T.length≤1000000:=by rw[hT,str_size]at hr;exact hr
 rw[hS]at k1
 rw[hT]at k5
 have hf:h.fields=str (((((([83,76,71,49]++F1)++S)++F2)++F3)++F4)++T):=by
  unfold Header.fields
  rw[←E,←U,←I,←O,hS,hT]
  simp only[str]
  apply ByteArray.ext
  simp
 have e4:(⟨#[83,76,71,49]⟩:ByteArray)=str [83,76,71,49]:=rfl
 have an:∀{a b:Nat},a≤3000000→b≤3000000→a+b≤4611686018427387904:=by omega
 refine J0 (R1 @bx ?_)
 refine J0 (D2 21 @Mem.get_push_new @k0 ?_)
 refine⟨by kernel_rfl,_,a6 _,?_⟩
 refine⟨by decide,?_⟩
 simp only[zZ,reduceIte,yQ,yW,yX,yZ,yJ,yK,yV,zDk,Jc,Jb,J9,J8,Xx,Mem.get_push_new,k1,k2,e4,ZE,V3,qd,qt,qm,l1]
 refine⟨by omega,by omega,?_⟩
 refine⟨by kernel_rfl,_,Z _,?_⟩
 refine⟨by decide,?_⟩
 refine S9 @Mem.get_push_new @k3 @ZE @V3 @qd.{0} @qt.{0} @qm.{0} @l1 @l2 ?_
 refine⟨by omega,?_⟩
 refine⟨by kernel_rfl,_,Y _,?_⟩
 refine⟨by decide,?_⟩
 simp only[zZ,reduceIte,yQ,yW,yX,yZ,yJ,yK,yV,zDk,Jc,Jb,J9,J8,Xx,Mem.get_push_new,k4,ZE,V3,qd,qt,qm,l1,l2,l3]
 refine⟨by omega,?_⟩
 refine⟨by kernel_rfl,_,a2 _,?_⟩
 refine⟨by decide,?_⟩
 simp only[zZ,reduceIte,yQ,yW,yX,yZ,yJ,yK,yV,zDk,Jc,Jb,J9,J8,Xx,Mem.get_push_new,k5,ZE,V3,qd,qt,qm,l1,l2,l3,l4]
 refine⟨by omega,by omega,?_⟩
 refine T0 ?_
 rw[hf]
 first|exact⟨_,tR _,rfl⟩|exact⟨_,tR _⟩|exact⟨_,tR _,rfl,rfl⟩
def noSlot(_:Unit):List Value:=.bool false::noExt.cells++[.slice none 0 0]
abbrev SlotsOwn(k:Nat)(M:Mem)(V:Value)(L:List Unit):Prop:=OwnL noSlot 10 k M V L
theorem new_slot1:JF qc 183 1 [(0,.agg (noSlot ()).toArray)]=some (.cells false 10 (noSlot ())):=by kernel_rfl
theorem slotapp{k:Nat}{M:Mem}{V:Value}{L:List Unit}(h:SlotsOwn k M V L)(hk:k≤M.size)(hl:L.length≤1000000):
 ∃M' V',JT qc (M.push (.cells false 10 (noSlot ()))) 183 183 V (.slice (some ⟨M.size,0,none⟩) 1 1)=some (V',M')∧QK V'=some (M.size+1)∧SlotsOwn k M' V' (L++[()])∧
  M'.size=M.size+2∧(∀b y,QK V≠some b→M.get b=some y→M'.get b=some y):=
 oapp Tryz.underlying183 inf_Slot (show Tryz.t190.zero=some (.agg (noSlot ()).toArray) by kernel_rfl) sz_Slot rfl Tryz.underlying183 (fun _=>rfl) (show Tryz.t190.bytes≤1000 by decide) h hk hl () 10
theorem OwnL.one{α:Type}{enc:α→List Value}{N k:Nat}{M:Mem}{V:Value}{L:List α}(h:OwnL enc N k M V L):Jo [V]=true∧V.cells.toList=[V]:=by
 rcases h with⟨_,rfl⟩|⟨_,g,_,rfl,_⟩<;>exact⟨rfl,rfl⟩
def Zg(e:Nat)(key:List UInt8)(ep:Int)(VO VK:Value):List Value:=[.pointer (some ⟨e,0,none⟩),.string (str key),.int .i64 ep,VO,VK,.int .i64 0]
theorem ropen_spec{M:Mem}{e n bO bL bF:Nat}(h:RB M e n bO bL bF)(h13:13≤n)(hn:n≤1024)(sec:List UInt8)(hsec:sec.length≤1000000):
 Abs.Spec qc 65 [.pointer (some ⟨e,0,none⟩),.string (str sec)] M fun u M'=>∃Q s VO VK,u=.tuple #[.pointer (some ⟨Q,0,none⟩),.int .i64 0]∧M'.get Q=some (.cells false s (Zg e (Sha.headKey sec) 1 VO VK))∧M.size≤Q∧Only [bO,bL,bF] M M'∧M.size≤M'.size:=by
 obtain⟨key,ag⟩:∃key,key=Sha.headKey sec:=⟨_,rfl⟩
 rw[←ag]
 obtain⟨s0,aS⟩:=h.1.row
 have c0:cellIn 0 (some (.cells false s0 [Uu bO n,Uu bL n,Uu bF n,.int .i64 (-1),.bool false]))=some (.slice (some ⟨bO,0,none⟩) n n):=rfl
 have aK:decide ((n:Int)<13)=false:=decide_eq_false (by omega)
 have q0:((0:Int) !=0)=false:=rfl
 have q8:((8:Int)==0)=false:=rfl
 have q9:((8:Int) !=8)=false:=rfl
 have es:(⟨#[]⟩:ByteArray)=str []:=rfl
 have aJ:keysV sec []=.agg #[.string (str (Sha.encKey sec [])),.string (str (Sha.macKey sec [])),.string (str key)]:=by rw[ag];rfl
 have au:vField qc 98 (some (.agg #[.string (str (Sha.encKey sec [])),.string (str (Sha.macKey sec [])),.string (str key)])) 2=some (.string (str key)):=by rfl
 have bd:Qj qc 185 [(0,.pointer (some ⟨e,0,none⟩)),(1,.string (str key))]=some (.agg (Zg e key 0 (.slice none 0 0) (.slice none 0 0)).toArray):=by kernel_rfl
 have bx:QO qc 185 (.agg (Zg e key 0 (.slice none 0 0) (.slice none 0 0)).toArray)=some (.cells false (J6 qc 185) (Zg e key 0 (.slice none 0 0) (.slice none 0 0))):=bx_RDep _ rfl
 generalize J6 qc 185=s1 at bx
 have ah:Qa qc 85=some (.cells false (J6 qc 85) noExt.cells):=al_Ext
 generalize J6 qc 85=s2 at ah
 have a8:∀x:Ext,(Value.agg x.cells.toArray).cells.toList=x.cells:=fun _=>rfl
 have aa:∀(M0:Mem)(b:Nat)(x y:Ext),Ji 8 M0 b 0 y.cells (some (.cells false s2 x.cells))=some (M0.set b (some (.cells false s2 y.cells))):=fun _ _ _ _=>rfl
 have ap:∀(x:Ext),Ju 8 0 (some (.cells false s2 x.cells))=some (.agg x.cells.toArray):=fun _=>rfl
 have aD:Qj qc 85 []=some (.agg noExt.cells.toArray):=by kernel_rfl
 have aE:Qj qc 190 [(0,.bool false),(1,.agg noExt.cells.toArray)]=some (.agg (noSlot ()).toArray):=by kernel_rfl
 have aB:Qj qc 190 []=some (.agg (noSlot ()).toArray):=by kernel_rfl
 have k3:∀ep VO VK,cellIn 3 (some (.cells false s1 (Zg e key ep VO VK)))=some VO:=fun _ _ _=>rfl
 have k4:∀ep VO VK,cellIn 4 (some (.cells false s1 (Zg e key ep VO VK)))=some VK:=fun _ _ _=>rfl
 obtain⟨Q,hQ⟩:∃Q,Q=M.size:=⟨_,rfl⟩
 obtain⟨M1,af⟩:∃M1,M1=M.push (.cells false s1 (Zg e key 0 (.slice none 0 0) (.slice none 0 0))):=⟨_,rfl⟩
 have g1:M1.get Q=some (.cells false s1 (Zg e key 0 (.slice none 0 0) (.slice none 0 0))):=by rw[af,hQ,Mem.get_push_new]
 have bh:M1.size=Q+1:=by rw[af,Mem.size_push,hQ]
 have new:=new_slot1
 refine WM Tryz.func65 Tryz.results65 Tryz.ntmps65 fun _=>?_
 refine J0 (R0 ?_)
 refine J0 (J0 (R3 @aS @c0 @aK ?_))
 refine CF (J3 ?_)
 refine S0 ?_
 refine J0 (R0 ?_)
 refine⟨by kernel_rfl,_,rkeys_at sec [] hsec (by decide) M,?_⟩
 rintro _ M9 ⟨rfl,e9⟩;replace e9:=e9.symm;subst e9
 rw[aJ]
 refine S3 @au @bd @bx ?_
 rw[←af,←hQ]
 refine QB (fun f M'=>∃VK,f=[(0,.pointer (some ⟨e,0,none⟩)),(6,.pointer (some ⟨Q,0,none⟩))]∧M'.get Q=some (.cells false s1 (Zg e key 0 (.slice none 0 0) VK))∧SlotsOwn (Q+1) M' VK (qo 8 ())∧(∀b x,M.get b=some x→M'.get b=some x)∧Q+1≤M'.size) ?_ ?_
 ·refine J0 (R0 ?_)
  refine J7 (Jr (fun j f M'=>∃(i:Nat)(VK:Value),j=8-i∧f=[(0,.pointer (some ⟨e,0,none⟩)),(6,.pointer (some ⟨Q,0,none⟩)),(7,.int .i64 (i:Nat))]∧i≤8∧
   M'.get Q=some (.cells false s1 (Zg e key 0 (.slice none 0 0) VK))∧SlotsOwn (Q+1) M' VK (qo i ())∧(∀b x,M.get b=some x→M'.get b=some x)∧Q+1≤M'.size) 8 ?_ ?_)
  ·refine JK [0,6,7] ?_
   exact⟨M1,tR _,0,_,rfl,rfl,by omega,g1,OwnL.nil _ _,fun b x hx=>by rw[af,Mem.get_push_old (Mem.get_lt hx)];exact hx,by omega⟩
  ·rintro j f M' ⟨i,VK,rfl,rfl,hi,U,a6,I,aA⟩
   refine J0 (J0 (R0 ?_))
   refine CC (decide ((i:Int)<8)) (fun hq=>J3 ?_) (fun hq=>Jn ?_)
   ·have hq:=of_decide_eq_true hq
    have w5:IntKind.i64.wrap (5+(i:Int))=((5+i:Nat):Int):=by rw[Xn (by omega) (by omega)];omega
    have w1:IntKind.i64.wrap ((i:Int)+1)=((i+1:Nat):Int):=by rw[Xn (by omega) (by omega)];omega
    have hb:=h.same I
    refine S0 ?_
    refine J0 (J7 (J0 (R1 @w5 ?_)))
    refine K0 (rread_at hb hn (5+i) (by omega)) ?_
    refine J0 (J0 (R1 @q0 ?_))
    refine CF (J3 ?_)
    refine S0 ?_
    obtain⟨b2,az⟩:∃b,b=M'.size:=⟨_,rfl⟩
    obtain⟨M2,Y⟩:∃M2,M2=(M'.push (.cells false s2 noExt.cells)).set M'.size (some (.cells false s2 noExt.cells)):=⟨_,rfl⟩
    have ac:∀b x,M'.get b=some x→M2.get b=some x:=fun b x hx=>by
     have:=Mem.get_lt hx
     rw[Y,Mem.get_set_ne (by omega),Mem.get_push_old this];exact hx
    have g2:M2.get b2=some (.cells false s2 noExt.cells):=by rw[Y,az];exact Mem.get_set_same (Mem.get_push_new _ _) _
    have ax:M2.size=M'.size+1:=by rw[Y,Mem.size_set,Mem.size_push]
    refine J0 (R0 ?_)
    refine K4 @ah @Mem.get_push_new @a8 @aa (rcat_at _) ?_
    rw[←Y,←az]
    refine J0 (R1 @q8 ?_)
    refine J0 (J0 (R0 ?_))
    refine CT (J1 ?_)
    obtain⟨M3,ae⟩:∃M3,M3=M2.set b2 (some (.cells false s2 noExt.cells)):=⟨_,rfl⟩
    have g3:M3.get b2=some (.cells false s2 noExt.cells):=by rw[ae];exact Mem.get_set_same g2 _
    have ai:∀b x,M'.get b=some x→M3.get b=some x:=fun b x hx=>by
     have:=Mem.get_lt hx
     rw[ae,Mem.get_set_ne (by omega)];exact ac b x hx
    have bb:M3.size=M'.size+1:=by rw[ae,Mem.size_set,ax]
    have r3:=ai Q _ U
    have O:=a6.same (M':=M3) fun b x _ hx=>ai b x hx
    obtain⟨M4,Z,al,aT,E,aM,ab⟩:=slotapp O (by omega) (by simp;omega)
    rw[rep_succ]at E
    have am:QK VK≠some Q:=fun hb=>by have:=(O.live hb).1;omega
    have r4:=ab Q _ am r3
    have p4:Ji 1 M4 Q 4 [Z] (some (.cells false s1 (Zg e key 0 (.slice none 0 0) VK)))=some (M4.set Q (some (.cells false s1 (Zg e key 0 (.slice none 0 0) Z)))):=by
     show(if [Z].length=1∧4+[Z].length≤6∧Jo [Z]=true then some (M4.set Q (some (.cells false s1 (setL (Zg e key 0 (.slice none 0 0) VK) 4 [Z]))))else none)=_
     rw[if_pos ⟨rfl,by show 4+1≤6;decide,E.one.1⟩];rfl
    have a4:=E.one.2
    refine S4 @aD @g2 @a8 @aa ?_
    rw[←ae]
    refine CW_draw2 hmix 9 (by kernel_rfl) ?_
    simp only[zZ,reduceIte,yQ,yW,yX,yZ,yJ,yK,yV,zDk,Jc,Jb,J9,J8,Xx,r3,k4,g3,ap,aE,new,al,r4,a4,p4]
    refine R1 @w1 ?_
    refine JK [0,6,7] ?_
    exact⟨_,tR _,8-(i+1),⟨i+1,Z,rfl,rfl,by omega,Mem.get_set_same r4 _,E.set_low (by omega) _,fun b x hx=>by
     have:=Mem.get_lt hx
     rw[Mem.get_set_ne (by omega)]
     exact ab b x (fun hb=>by have:=(O.live hb).1;omega) (ai b x (I b x hx)),by rw[Mem.size_set];omega⟩,by omega⟩
   ·have hq:=of_decide_eq_false hq
    have h8:i=8:=by omega
    subst h8
    refine S0 ?_
    refine JK [0,6] ?_
    exact⟨M',tR _,VK,U,a6,I,aA⟩
 ·rintro f M8 ⟨VK,rfl,an,aP,aj,av⟩
  refine J0 (J0 (R0 ?_))
  refine J7 (Jr (fun j f M'=>∃(i:Nat)(VO:Value),j=4-i∧f=[(0,.pointer (some ⟨e,0,none⟩)),(6,.pointer (some ⟨Q,0,none⟩)),(13,.int .i64 (i:Nat))]∧i≤4∧
   M'.get Q=some (.cells false s1 (Zg e key 0 VO VK))∧SlotsOwn (Q+1) M' VO (qo i ())∧(∀b x,M.get b=some x→M'.get b=some x)∧Q+1≤M'.size) 4 ?_ ?_)
  ·refine JK [0,6,13] ?_
   exact⟨M8,tR _,0,_,rfl,rfl,by omega,an,OwnL.nil _ _,aj,av⟩
  ·rintro j f M' ⟨i,VO,rfl,rfl,hi,U,a6,I,aA⟩
   refine J0 (J0 (R0 ?_))
   refine CC (decide ((i:Int)<4)) (fun hq=>J3 ?_) (fun hq=>Jn ?_)
   ·have hq:=of_decide_eq_true hq
    have w5:IntKind.i64.wrap (1+(i:Int))=((1+i:Nat):Int):=by rw[Xn (by omega) (by omega)];omega
    have w1:IntKind.i64.wrap ((i:Int)+1)=((i+1:Nat):Int):=by rw[Xn (by omega) (by omega)];omega
    have hb:=h.same I
    refine S0 ?_
    refine J0 (J7 (J0 (R1 @w5 ?_)))
    refine K0 (rread_at hb hn (1+i) (by omega)) ?_
    refine J0 (J0 (R1 @q0 ?_))
    refine CF (J3 ?_)
    refine S0 ?_
    obtain⟨M2,Y⟩:∃M2,M2=(M'.push (.cells false s2 noExt.cells)).set M'.size (some (.cells false s2 noExt.cells)):=⟨_,rfl⟩
    have ac:∀b x,M'.get b=some x→M2.get b=some x:=fun b x hx=>by
     have:=Mem.get_lt hx
     rw[Y,Mem.get_set_ne (by omega),Mem.get_push_old this];exact hx
    have ax:M2.size=M'.size+1:=by rw[Y,Mem.size_set,Mem.size_push]
    have r3:=ac Q _ U
    have O:=a6.same (M':=M2) fun b x _ hx=>ac b x hx
    obtain⟨M4,a2,al,aT,E,aM,ab⟩:=slotapp O (by omega) (by simp;omega)
    rw[rep_succ]at E
    have am:QK VO≠some Q:=fun hb=>by have:=(O.live hb).1;omega
    have r4:=ab Q _ am r3
    have p4:Ji 1 M4 Q 3 [a2] (some (.cells false s1 (Zg e key 0 VO VK)))=some (M4.set Q (some (.cells false s1 (Zg e key 0 a2 VK)))):=by
     show(if [a2].length=1∧3+[a2].length≤6∧Jo [a2]=true then some (M4.set Q (some (.cells false s1 (setL (Zg e key 0 VO VK) 3 [a2]))))else none)=_
     rw[if_pos ⟨rfl,by show 3+1≤6;decide,E.one.1⟩];rfl
    have a4:=E.one.2
    refine J0 (R0 ?_)
    refine K4 @ah @Mem.get_push_new @a8 @aa (rjou_at _) ?_
    rw[←Y]
    refine J0 (R1 @q8 ?_)
    refine J0 (J0 (R0 ?_))
    refine CF (J3 ?_)
    refine S0 ?_
    refine J0 (R8 @r3 @k3 @aB @new @al @r4 @a4 @p4 ?_)
    refine J0 (R1 @q9 ?_)
    refine CF (J3 ?_)
    refine S0 ?_
    refine R1 @w1 ?_
    refine JK [0,6,13] ?_
    exact⟨_,tR _,4-(i+1),⟨i+1,a2,rfl,rfl,by omega,Mem.get_set_same r4 _,E.set_low (by omega) _,fun b x hx=>by
     have:=Mem.get_lt hx
     rw[Mem.get_set_ne (by omega)]
     exact ab b x (fun hb=>by have:=(O.live hb).1;omega) (ac b x (I b x hx)),by rw[Mem.size_set];omega⟩,by omega⟩
   ·have hb:=h.same I
    have lO:=Mem.get_lt h.2
    obtain⟨_,_,gO⟩:=h.1.old
    obtain⟨_,_,gF⟩:=h.1.fresh
    have lO:=Mem.get_lt gO
    have lL:=Mem.get_lt h.2
    have lF:=Mem.get_lt gF
    refine S0 ?_
    refine J0 (R0 ?_)
    refine⟨by kernel_rfl,_,rnext_at hb (by omega) hn,?_⟩
    rintro _ M9 ⟨rfl,h9,aq,b8⟩
    have r9:=aq Q _ (by simp;omega) U
    have p9:Ji 1 M9 Q 2 [.int .i64 1] (some (.cells false s1 (Zg e key 0 VO VK)))=some (M9.set Q (some (.cells false s1 (Zg e key 1 VO VK)))):=rfl
    have aI:(Value.int .i64 1).cells.toList=[.int .i64 1]:=rfl
    refine S0 ?_
    refine J0 (J0 (R1 @q0 ?_))
    refine CF (J3 ?_)
    refine S0 ?_
    refine J0 (R3 @r9 @aI @p9 ?_)
    refine J0 (R0 ?_)
    refine T0 ?_
    exact⟨_,tR _,Q,s1,VO,VK,rfl,Mem.get_set_same r9 _,by omega,fun b x hb hx=>by
     have:=Mem.get_lt hx
     rw[Mem.get_set_ne (by omega)]
     exact aq b x hb (I b x hx),by rw[Mem.size_set];omega⟩
def encB(b:UInt8):List Value:=[JB b]
abbrev BytesOwn(k:Nat)(M:Mem)(V:Value)(L:List UInt8):Prop:=OwnL encB 1 k M V L
theorem new_byte(x:Int)(b:UInt8)(h:x=(b.toNat:Int)):JF qc 172 1 [(0,.int .u8 x)]=some (.cells false 1 (encB b)):=by
 subst h;exact new_u8 _
theorem byapp{k:Nat}{M:Mem}{V:Value}{L:List UInt8}(h:BytesOwn k M V L)(hk:k≤M.size)(hl:L.length≤1000000)(x:UInt8):
 ∃M' V',JT qc (M.push (.cells false 1 (encB x))) 172 172 V (.slice (some ⟨M.size,0,none⟩) 1 1)=some (V',M')∧QK V'=some (M.size+1)∧BytesOwn k M' V' (L++[x])∧
  M'.size=M.size+2∧(∀b y,QK V≠some b→M.get b=some y→M'.get b=some y):=
 oapp qx Zv u8_zero XA rfl qx (fun _=>rfl) (by rw[u8_bytes];decide) h hk hl x 1
theorem bytes_cells(L:List UInt8):L.flatMap encB=J5 L:=Z2 JB L
theorem BytesOwn.text{k:Nat}{M:Mem}{V:Value}{L:List UInt8}(h:BytesOwn k M V L)(h0:L≠ []):Xw qc M.get 172 9 V=some (.string (str L)):=by
 rcases h with⟨I,_⟩|⟨_,g,_,rfl,E⟩
 ·exact absurd I h0
 ·rw[bytes_cells]at E
  exact to_str E rfl
def UU(s:List UInt8)(i t:Nat):List UInt8:=(qq t).map fun j=>s.getD (192*i+j) 0
theorem chunkUpto_succ(s:List UInt8)(i t:Nat):UU s i t++[s.getD (192*i+t) 0]=UU s i (t+1):=by
 unfold UU
 rw[qu,qB]
 rfl
theorem chunks_succ(s:List UInt8)(i:Nat):(qq i).map (QD s)++[QD s i]=(qq (i+1)).map (QD s):=by
 rw[qu,qB]
 rfl
theorem rsplit_spec(s:List UInt8)(hs:s.length≤100000)(M:Mem):
 Abs.Spec qc 106 [.string (str s)] M fun u M'=>QE M.size M' u (UT s)∧More M M':=by
 have ab:JC (str s)=s.length:=rfl
 refine WM Tryz.func106 Tryz.results106 Tryz.ntmps106 fun _=>?_
 refine J0 (R0 ?_)
 refine J0 (R0 ?_)
 refine J0 (J0 (R0 ?_))
 refine J7 (Jr (fun j f M'=>∃(i:Nat)(V:Value),j=s.length-192*i∧f=[(0,.string (str s)),(3,V),(4,.int .i64 ((192*i:Nat):Int))]∧192*i≤s.length+191∧
  QE M.size M' V ((qq i).map (QD s))∧(∀b x,b<M.size→M.get b=some x→M'.get b=some x)∧M.size≤M'.size) s.length ?_ ?_)
 ·refine JK [0,3,4] ?_
  exact⟨M,tR _,0,_,rfl,rfl,by omega,OwnL.nil _ _,fun _ _ _ h=>h,qy _⟩
 ·rintro j f M' ⟨i,V,rfl,rfl,hi,a6,a7,ag⟩
  refine J0 (J0 (R1 @ab ?_))
  refine CC (decide (((192*i:Nat):Int)<((s.length:Nat):Int))) (fun hq=>J3 ?_) (fun hq=>Jn ?_)
  ·have ai:192*i<s.length:=by have:=of_decide_eq_true hq;omega
   have a8:IntKind.i64.wrap (((192*i:Nat):Int)+192)=((192*(i+1):Nat):Int):=by rw[Xn (by omega) (by omega)];omega
   refine S0 ?_
   refine J0 (J7 (J0 (R0 ?_)))
   refine QB (fun f U=>∃B,f=[(0,.string (str s)),(3,V),(4,.int .i64 ((192*i:Nat):Int)),(5,B)]∧BytesOwn M'.size U B (QD s i)∧(∀b x,b<M'.size→M'.get b=some x→U.get b=some x)∧M'.size≤U.size) ?_ ?_
   ·refine J0 (R0 ?_)
    refine J7 (Jr (fun jj f U=>∃(t:Nat)(B:Value),jj=192-t∧f=[(0,.string (str s)),(3,V),(4,.int .i64 ((192*i:Nat):Int)),(5,B),(6,.int .i64 ((192*i+t:Nat):Int))]∧t≤192∧
     BytesOwn M'.size U B (UU s i t)∧(∀b x,b<M'.size→M'.get b=some x→U.get b=some x)∧M'.size≤U.size) 192 ?_ ?_)
    ·refine JK [0,3,4,5,6] ?_
     exact⟨M',tR _,0,_,rfl,rfl,by omega,OwnL.nil _ _,fun _ _ _ h=>h,qy _⟩
    ·rintro jj f U ⟨t,B,rfl,rfl,ht,hb,I,Y⟩
     refine J0 (J0 (R1 @a8 ?_))
     refine CC (decide (((192*i+t:Nat):Int)<((192*(i+1):Nat):Int))) (fun hq=>J3 ?_) (fun hq=>Jn ?_)
     ·have an:t<192:=by have:=of_decide_eq_true hq;omega
      have w1:IntKind.i64.wrap (((192*i+t:Nat):Int)+1)=((192*i+(t+1):Nat):Int):=by rw[Xn (by omega) (by omega)];omega
      obtain⟨M4,V4,a2,ah,E,af,O⟩:=byapp hb Y (by unfold UU;rw[qk,List.length_range];omega) (s.getD (192*i+t) 0)
      rw[chunkUpto_succ]at E
      refine S0 ?_
      refine J0 (J7 (J0 (R1 @ab ?_)))
      refine CC (decide (((192*i+t:Nat):Int)<((s.length:Nat):Int))) (fun hq=>J1 ?_) (fun hq=>J1 ?_)
      ·have aa:192*i+t<s.length:=by have:=of_decide_eq_true hq;omega
       have ix:=index_str (str s) _ (192*i+t) rfl (by rw[str_size];exact aa)
       have nb:=new_byte _ (s.getD (192*i+t) 0) rfl
       have e1:(str s).data.toList=s:=rfl
       rw[e1]at ix
       refine S3 @ix @nb @a2 ?_
       refine R1 @w1 ?_
       refine JK [0,3,4,5,6] ?_
       exact⟨_,tR _,192-(t+1),⟨t+1,V4,rfl,rfl,by omega,E,fun b y hbl hy=>O b y (fun e=>by have:=(hb.live e).1;omega) (I b y hbl hy),by omega⟩,by omega⟩
      ·have aa:s.length≤192*i+t:=by have:=of_decide_eq_false hq;omega
       have nb:=new_byte 0 (s.getD (192*i+t) 0) (by rw[List.getD_eq_getElem?_getD,List.getElem?_eq_none aa];rfl)
       refine S2 @nb @a2 ?_
       refine R1 @w1 ?_
       refine JK [0,3,4,5,6] ?_
       exact⟨_,tR _,192-(t+1),⟨t+1,V4,rfl,rfl,by omega,E,fun b y hbl hy=>O b y (fun e=>by have:=(hb.live e).1;omega) (I b y hbl hy),by omega⟩,by omega⟩
     ·obtain rfl:t=192:=by have:=of_decide_eq_false hq;omega
      refine JK [0,3,4,5] ?_
      exact⟨U,tR _,B,rfl,hb,I,Y⟩
   rintro _ U ⟨B,rfl,hb,I,Y⟩
   have tx:=hb.text (fun e=>by have:=chunkAt_len s i;rw[e]at this;cases this)
   have Z:QE M.size U V ((qq i).map (QD s)):=by
    exact a6.same fun b y _ hy=>I b y (Mem.get_lt hy) hy
   obtain⟨aB,cB,rfl⟩:=hb.len
   have nw:=Vf (QD s i)
   obtain⟨M4,V4,a2,ah,E,af,O⟩:=strapp Z (by omega) (by rw[qk,List.length_range];omega) (QD s i)
   rw[chunks_succ]at E
   refine R3 @tx @nw @a2 ?_
   refine R1 @a8 ?_
   refine JK [0,3,4] ?_
   exact⟨_,tR _,s.length-192*(i+1),⟨i+1,V4,rfl,rfl,by omega,E,fun b y hbl hy=>O b y (fun e=>by have:=(Z.live e).1;omega) (I b y (by omega) (a7 b y hbl hy)),by omega⟩,by omega⟩
  ·have ai:s.length≤192*i:=by have:=of_decide_eq_false hq;omega
   have ad:i=(s.length+191)/192:=by omega
   refine S0 ?_
   refine J0 (R0 ?_)
   refine T0 ?_
   exact⟨M',tR _,by unfold UT;rw[←ad];exact a6,fun b x hb=>a7 b x (Mem.get_lt hb) hb,ag⟩
theorem fields_size(h:Header):h.fields.size=18+h.salt.size+h.root.size:=by
 unfold Header.fields
 simp only[ByteArray.size_append,str_size,Sha.fixed_length]
 show 4+4+_+2+4+4+_=_
 omega
theorem More.setNew{m M:Mem}(h:More m M){b:Nat}(hb:m.size≤b)(x:Option Blk):More m (M.set b x):=
 ⟨fun c y hc=>by have:=Mem.get_lt hc;rw[Mem.get_set_ne (by omega)];exact h.get c y hc,by rw[Mem.size_set];exact h.size⟩
theorem More.pushed{m M:Mem}(h:More m M)(x:Blk):More m (M.push x):=h.trans (More.push _ _)
theorem signed_spec(secret:List UInt8)(hsec:secret.length≤1000000)(h:Header)(h1:0≤h.id∧h.id≤4294967295)(h2:0≤h.n∧h.n≤100000)(h3:0≤h.bytes∧h.bytes≤100000)(h4:0≤h.raw∧h.raw≤1000000000)(hs:h.salt.size≤1000000)(hr:h.root.size≤1000000)
 (a:Option Addr) (n c:Nat) (M:Mem):
 Abs.Spec qc 108 [.string (str secret),.agg (Jq h (.slice a n c)).toArray] M fun u M'=>u=.agg (Jq { h with tag:=str (Sha.tag (Sha.headKey secret) h.fields.data.toList) } (.slice a n c)).toArray∧More M M':=by
 have kl:=Z0 secret
 obtain⟨T,hT⟩:∃T,T=Sha.tag (Sha.headKey secret) h.fields.data.toList:=⟨_,rfl⟩
 rw[←hT]
 refine WM Tryz.func108 Tryz.results108 Tryz.ntmps108 fun _=>?_
 have bx:QO qc 36 (.agg (Jq h (.slice a n c)).toArray)=some (.cells false (J6 qc 36) (Jq h (.slice a n c))):=bx_Arc _ rfl
 have af:Qa qc 36=some (.cells false (J6 qc 36) (Jq noHead (.slice none 0 0))):=al_Arc
 generalize J6 qc 36=s1 at bx af
 have a2:Qa qc 34=some (.cells false (J6 qc 34) noHead.cells):=al_Hdr
 generalize J6 qc 34=s2 at a2
 have aw:∀(h:Header),Qj qc 36 [(0,.agg h.cells.toArray),(1,.slice a n c)]=some (.agg (Jq h (.slice a n c)).toArray):=fun h=>by kernel_rfl
 have al:∀s (h:Header) V,Ju 7 0 (some (.cells false s (Jq h V)))=some (.agg h.cells.toArray):=fun _ _ _=>rfl
 have k7:∀s (h:Header) V,cellIn 7 (some (.cells false s (Jq h V)))=some V:=fun _ _ _=>rfl
 have ab:∀s (h:Header) V,Ju 8 0 (some (.cells false s (Jq h V)))=some (.agg (Jq h V).toArray):=fun _ _ _=>rfl
 have a6:∀s (h:Header),Ju 7 0 (some (.cells false s h.cells))=some (.agg h.cells.toArray):=fun _ _=>rfl
 have ak:∀x:Header,(Value.agg x.cells.toArray).cells.toList=x.cells:=fun _=>rfl
 have ac:∀(h:Header) V,(Value.agg (Jq h V).toArray).cells.toList=Jq h V:=fun _ _=>rfl
 have ag:∀(M0:Mem)(b:Nat)(x y:Header),Ji 7 M0 b 0 y.cells (some (.cells false s2 x.cells))=some (M0.set b (some (.cells false s2 y.cells))):=fun _ _ _ _=>rfl
 have ai:∀(M0:Mem)(b:Nat)(x y:Header) V,Ji 8 M0 b 0 (Jq y (.slice a n c)) (some (.cells false s1 (Jq x V)))=some (M0.set b (some (.cells false s1 (Jq y (.slice a n c))))):=fun _ _ _ _ _=>rfl
 have ah:∀(M0:Mem)(b:Nat)(x:Header)(t:ByteArray),Ji 1 M0 b 6 [.string t] (some (.cells false s2 x.cells))=some (M0.set b (some (.cells false s2 ({ x with tag:=t }:Header).cells))):=fun _ _ _ _=>rfl
 obtain⟨M1,E⟩:∃M1,M1=M.push (.cells false s1 (Jq h (.slice a n c))):=⟨_,rfl⟩
 obtain⟨U,I⟩:∃U,U=M1.push (.cells false s1 (Jq noHead (.slice none 0 0))):=⟨_,rfl⟩
 obtain⟨b3,a7⟩:∃b,b=M.size:=⟨_,rfl⟩
 obtain⟨b4,Z⟩:∃b,b=M1.size:=⟨_,rfl⟩
 have aF:b4=b3+1:=by rw[Z,E,Mem.size_push,a7]
 have hs2:U.size=M.size+2:=by rw[I,E,Mem.size_push,Mem.size_push]
 have ax:More M U:=by rw[I,E];exact(More.push _ _).trans (More.push _ _)
 have g3:U.get b3=some (.cells false s1 (Jq h (.slice a n c))):=by
  rw[I,Mem.get_push_old (by rw[←Z];omega),E,a7,Mem.get_push_new]
 have g4:U.get b4=some (.cells false s1 (Jq noHead (.slice none 0 0))):=by rw[I,Z,Mem.get_push_new]
 refine J0 (R2 @bx @af ?_)
 rw[←E,←I,←a7,←Z]
 refine J0 (R6 @g3 @al @a2 @Mem.get_push_new @ak @ag ?_)
 obtain⟨b5,ae⟩:∃b,b=U.size:=⟨_,rfl⟩
 obtain⟨M3,Y⟩:∃M3,M3=(U.push (.cells false s2 noHead.cells)).set U.size (some (.cells false s2 h.cells)):=⟨_,rfl⟩
 rw[←Y,←ae]
 have g5:M3.get b5=some (.cells false s2 h.cells):=by rw[Y,ae];exact Mem.get_set_same (Mem.get_push_new _ _) _
 have old:∀b x,U.get b=some x→M3.get b=some x:=fun b x hb=>by
  have:=Mem.get_lt hb
  rw[Y,Mem.get_set_ne (by omega),Mem.get_push_old this];exact hb
 have av:More M M3:=by rw[Y];exact(ax.pushed _).setNew (by omega) _
 have ay:keysV secret []=.agg #[.string (str (Sha.encKey secret [])),.string (str (Sha.macKey secret [])),.string (str (Sha.headKey secret))]:=rfl
 have aj:vField qc 98 (some (.agg #[.string (str (Sha.encKey secret [])),.string (str (Sha.macKey secret [])),.string (str (Sha.headKey secret))])) 2=some (.string (str (Sha.headKey secret))):=by rfl
 have e0:(⟨#[]⟩:ByteArray)=str []:=rfl
 refine J0 (D1 5 @e0 ?_)
 refine⟨by kernel_rfl,_,rkeys_at secret [] hsec (by decide) _,?_⟩
 rw[ay]
 refine⟨by decide,?_⟩
 refine S3 @aj @g5 @a6 ?_
 refine⟨by kernel_rfl,_,rfields_at h h1 h2 h3 h4 hs hr _,?_⟩
 refine⟨by decide,?_⟩
 refine S0 ?_
 refine⟨by kernel_rfl,_,rtag_at _ (str (Sha.headKey secret)) h.fields (by rw[str_size];omega) (by rw[fields_size];omega),?_⟩
 rintro _ M9 ⟨rfl,e9⟩;replace e9:=e9.symm;subst e9
 rw[show(str (Sha.headKey secret)).data.toList=Sha.headKey secret from rfl,←hT]
 simp only[zZ,reduceIte,yQ,yW,yX,yZ,yJ,yK,yV,zDk,Jc,Jb,J9,J8,Xx,g5,ah]
 obtain⟨M4,O⟩:∃M4,M4=M3.set b5 (some (.cells false s2 ({ h with tag:=str T }:Header).cells)):=⟨_,rfl⟩
 rw[←O]
 have aB:M4.get b5=some (.cells false s2 ({ h with tag:=str T }:Header).cells):=by rw[O];exact Mem.get_set_same g5 _
 have ap:M4.get b3=some (.cells false s1 (Jq h (.slice a n c))):=by rw[O,Mem.get_set_ne (by omega)];exact old _ _ g3
 have ad:M4.get b4=some (.cells false s1 (Jq noHead (.slice none 0 0))):=by rw[O,Mem.get_set_ne (by omega)];exact old _ _ g4
 have ar:More M M4:=by rw[O];exact av.setNew (by omega) _
 refine J0 (R8 @aB @a6 @ap @k7 @aw @ad @ac @ai ?_)
 have an:=Mem.get_set_same ad (some (.cells false s1 (Jq { h with tag:=str T } (.slice a n c))))
 refine T3 @Q4 @an @ab ?_
 exact⟨_,tR _,ar.setNew (by omega) _⟩
theorem sealed_succ(enc mac s:List UInt8)(i:Nat):((qq i).map fun i=>sealV enc mac i (QD s i))++[sealV enc mac i (QD s i)]=(qq (i+1)).map fun i=>sealV enc mac i (QD s i):=by
 rw[qu,qB]
 rfl
theorem of_spec(secret salt:List UInt8)(id:Int)(s:List UInt8)(raw:Int)(hsec:secret.length≤1000000)(hsalt:salt.length=16)(hid:1≤id∧id≤4294967295)(h1:1≤s.length)(h2:s.length≤49152)(hraw:1≤raw∧raw≤134217728)(M:Mem):
 Abs.Spec qc 60 [.string (str secret),.string (str salt),.int .i64 id,.string (str s),.int .i64 raw] M fun u M'=>∃V,u=.agg (Jq (Vl secret salt id s raw).head V).toArray∧QE M.size M' V (Vl secret salt id s raw).blocks∧More M M':=by
 obtain⟨enc,ad⟩:∃e,e=Sha.encKey secret salt:=⟨_,rfl⟩
 obtain⟨E,ag⟩:∃e,e=Sha.macKey secret salt:=⟨_,rfl⟩
 obtain⟨hk,bD⟩:∃e,e=Sha.headKey secret:=⟨_,rfl⟩
 have el:enc.length=32:=by rw[ad];exact encKey_len32 _ _
 have ml:E.length=32:=by rw[ag];exact macKey_len32 _ _
 have bg:keysV secret salt=.agg #[.string (str enc),.string (str E),.string (str hk)]:=by rw[ad,ag,bD];rfl
 obtain⟨nb,b9⟩:∃n,n=(s.length+191)/192:=⟨_,rfl⟩
 have bp:nb≤256:=by omega
 obtain⟨S,hS⟩:∃S:Nat→List (List UInt8),S=fun i=>(qq i).map fun i=>sealV enc E i (QD s i):=⟨_,rfl⟩
 have ao:∀i,(S i).length=i:=fun i=>by rw[hS];simp
 have bA:∀i,S i++[sealV enc E i (QD s i)]=S (i+1):=fun i=>by rw[hS];exact sealed_succ enc E s i
 have bf:∀i,∀b∈S i,b.length=224:=fun i b hb=>by
  rw[hS]at hb
  obtain⟨j,_,rfl⟩:=qC.1 hb
  exact sealV_len _ _ _ _
 have aZ:(Vl secret salt id s raw).blocks=S nb:=by rw[hS,ad,ag,b9];rfl
 have cl:(UT s).length=nb:=by rw[b9];simp[UT]
 have bs:∀i,i<nb→(UT s)[i]?=some (QD s i):=fun i hi=>by
  unfold UT
  rw[qv,List.getElem?_range (by omega)];rfl
 have bh:JC (str s)=s.length:=rfl
 refine WM Tryz.func60 Tryz.results60 Tryz.ntmps60 fun _=>?_
 have aF:Qa qc 36=some (.cells false (J6 qc 36) (Jq noHead (.slice none 0 0))):=al_Arc
 generalize J6 qc 36=s1 at aF
 have aA:Qa qc 98=some (.cells false (J6 qc 98) [.string ⟨#[]⟩,.string ⟨#[]⟩,.string ⟨#[]⟩]):=al_Keys
 generalize J6 qc 98=s2 at aA
 have aN:Qj qc 36 []=some (.agg (Jq noHead (.slice none 0 0)).toArray):=by kernel_rfl
 have bB:∀(h:Header)(a:Option Addr)(n c:Nat),Qj qc 36 [(0,.agg h.cells.toArray),(1,.slice a n c)]=some (.agg (Jq h (.slice a n c)).toArray):=fun h a n c=>by kernel_rfl
 have bw:∀(id n b r:Int)(sl ro:ByteArray),Qj qc 34 [(0,.int .i64 id),(1,.string sl),(2,.int .i64 n),(3,.int .i64 b),(4,.int .i64 r),(5,.string ro)]=some (.agg (⟨id,sl,n,b,r,ro,⟨#[]⟩⟩:Header).cells.toArray):=fun _ _ _ _ _ _=>by kernel_rfl
 have aM:∀s (h:Header) V,Ju 8 0 (some (.cells false s (Jq h V)))=some (.agg (Jq h V).toArray):=fun _ _ _=>rfl
 have k7:∀s (h:Header) V,cellIn 7 (some (.cells false s (Jq h V)))=some V:=fun _ _ _=>rfl
 have au:∀(h:Header) V,(Value.agg (Jq h V).toArray).cells.toList=Jq h V:=fun _ _=>rfl
 have aw:∀(M0:Mem)(b:Nat)(x y:Header) V a n c,Ji 8 M0 b 0 (Jq y (.slice a n c)) (some (.cells false s1 (Jq x V)))=some (M0.set b (some (.cells false s1 (Jq y (.slice a n c))))):=fun _ _ _ _ _ _ _ _=>rfl
 have aU:∀(M0:Mem)(b:Nat)(x:Header) V a n c,Ji 1 M0 b 7 [.slice a n c] (some (.cells false s1 (Jq x V)))=some (M0.set b (some (.cells false s1 (Jq x (.slice a n c))))):=fun _ _ _ _ _ _ _=>rfl
 have b7:∀(M0:Mem)(b:Nat)(x y z:ByteArray),Ji 3 M0 b 0 [.string (str enc),.string (str E),.string (str hk)] (some (.cells false s2 [.string x,.string y,.string z]))=some (M0.set b (some (.cells false s2 [.string (str enc),.string (str E),.string (str hk)]))):=fun _ _ _ _ _=>rfl
 have k3:∀s,Ju 3 0 (some (.cells false s [.string (str enc),.string (str E),.string (str hk)]))=some (.agg #[.string (str enc),.string (str E),.string (str hk)]):=fun _=>rfl
 obtain⟨aI,ax⟩:∃b,b=M.size:=⟨_,rfl⟩
 obtain⟨M1,ap⟩:∃M1,M1=M.push (.cells false s1 (Jq noHead (.slice none 0 0))):=⟨_,rfl⟩
 have be:M1.get aI=some (.cells false s1 (Jq noHead (.slice none 0 0))):=by rw[ap,ax,Mem.get_push_new]
 have bz:More M M1:=by rw[ap];exact More.push _ _
 have bE:M1.size=M.size+1:=by rw[ap,Mem.size_push]
 refine J0 (R1 @aF ?_)
 rw[←ap,←ax]
 refine J0 (R0 ?_)
 refine⟨by kernel_rfl,_,rkeys_at secret salt hsec (by omega) _,?_⟩
 rintro _ M9 ⟨rfl,e9⟩;replace e9:=e9.symm;subst e9
 rw[bg]
 refine S4 @aA @keys_cells @Mem.get_push_new @b7 ?_
 obtain⟨aH,av⟩:∃b,b=M1.size:=⟨_,rfl⟩
 obtain⟨M2,ak⟩:∃M2,M2=(M1.push (.cells false s2 [.string ⟨#[]⟩,.string ⟨#[]⟩,.string ⟨#[]⟩])).set M1.size (some (.cells false s2 [.string (str enc),.string (str E),.string (str hk)])):=⟨_,rfl⟩
 rw[←ak,←av]
 have br:M2.get aH=some (.cells false s2 [.string (str enc),.string (str E),.string (str hk)]):=by rw[ak,av];exact Mem.get_set_same (Mem.get_push_new _ _) _
 have ay:∀b x,M1.get b=some x→M2.get b=some x:=fun b x hb=>by
  have:=Mem.get_lt hb
  rw[ak,Mem.get_set_ne (by omega),Mem.get_push_old this];exact hb
 have hs2:M2.size=M.size+2:=by rw[ak,Mem.size_set,Mem.size_push,bE]
 refine J0 (R0 ?_)
 refine⟨by kernel_rfl,_,rsplit_spec s (by omega) M2,?_⟩
 rintro bY M3 ⟨I,aj⟩
 obtain⟨bo,bl,rfl⟩:=I.len
 have ai:=I.strs
 rw[cl]at I ⊢
 have aX:=aj.get _ _ br
 have aW:=aj.get _ _ (ay _ _ be)
 have bQ:=aj.size
 refine S0 ?_
 refine J0 (R5 @aN @aF @Mem.get_push_new @au @aw ?_)
 obtain⟨U,aD⟩:∃b,b=M3.size:=⟨_,rfl⟩
 obtain⟨M4,al⟩:∃M4,M4=(M3.push (.cells false s1 (Jq noHead (.slice none 0 0)))).set M3.size (some (.cells false s1 (Jq noHead (.slice none 0 0)))):=⟨_,rfl⟩
 rw[←al,←aD]
 have aG:M4.get U=some (.cells false s1 (Jq noHead (.slice none 0 0))):=by rw[al,aD];exact Mem.get_set_same (Mem.get_push_new _ _) _
 have Y:∀b x,M3.get b=some x→M4.get b=some x:=fun b x hb=>by
  have:=Mem.get_lt hb
  rw[al,Mem.get_set_ne (by omega),Mem.get_push_old this];exact hb
 have bO:M4.size=M3.size+1:=by rw[al,Mem.size_set,Mem.size_push]
 have af:=Y _ _ aW
 have az:=Y _ _ aX
 have bF:=ai.same Y
 have b5:∀b x,M.get b=some x→M4.get b=some x:=fun b x hb=>Y b x (aj.get b x (ay b x (bz.get b x hb)))
 refine J0 (J0 (R0 ?_))
 refine J7 (Jr (fun j f M'=>∃(i:Nat)(a:Option Addr)(c:Nat),j=nb-i∧f=[(0,.string (str secret)),(1,.string (str salt)),(2,.int .i64 id),(3,.string (str s)),(4,.int .i64 raw),(10,.pointer (some ⟨aI,0,none⟩)),(11,.pointer (some ⟨aH,0,none⟩)),(12,.slice bo nb bl),(13,.pointer (some ⟨U,0,none⟩)),(14,.int .i64 (i:Nat))]∧i≤nb∧
  QE M4.size M' (.slice a i c) (S i)∧M'.get U=some (.cells false s1 (Jq noHead (.slice a i c)))∧(∀b x,b<M4.size→b≠U→M4.get b=some x→M'.get b=some x)∧M4.size≤M'.size) nb ?_ ?_)
 ·refine JK [0,1,2,3,4,10,11,12,13,14] ?_
  exact⟨M4,tR _,0,none,0,rfl,rfl,by omega,by rw[hS];exact OwnL.nil _ _,aG,fun _ _ _ _ h=>h,qy _⟩
 ·rintro j f M' ⟨i,a,c,rfl,rfl,hi,Z,a6,a2,bv⟩
  refine J0 (J0 (R0 ?_))
  refine CC (decide ((i:Int)<(nb:Int))) (fun hq=>J3 ?_) (fun hq=>Jn ?_)
  ·have aE:i<nb:=by have:=of_decide_eq_true hq;omega
   have w1:IntKind.i64.wrap ((i:Int)+1)=((i+1:Nat):Int):=by rw[Xn (by omega) (by omega)];omega
   obtain⟨a',c',e1,_,_,aR⟩:=ai
   cases e1
   obtain⟨bC,oC,bq,bm,rfl,aB,bk⟩:=aR i _ (bs i aE)
   have aY:=Y _ _ aB
   have ba:=a2 bC _ (Mem.get_lt aY) (by have:=Mem.get_lt aB;omega) aY
   have cC:cellIn (oC+i) (some (.cells bq 1 bm))=some (.string (str (QD s i))):=bk
   have aQ:=a2 aH _ (Mem.get_lt az) (by omega) az
   have z0:(0:Int)≤(i:Int):=by omega
   have z1:(i:Int)<((nb:Nat):Int):=by omega
   have sa:=seal_at enc E hk (QD s i) i el ml (by omega) (chunkAt_len s i) M'
   have nw:=Vf (sealV enc E i (QD s i))
   obtain⟨M5,V5,bx,bP,O,bS,ac⟩:=strapp Z bv (by rw[ao];omega) (sealV enc E i (QD s i))
   rw[bA]at O
   obtain⟨a5,c5,aV⟩:=O.len
   rw[ao]at aV
   subst aV
   have bd:QK (.slice a i c)≠some U:=fun e=>by have:=(Z.live e).1;have:=Mem.get_lt aG;omega
   have ae:=ac U _ bd a6
   have aK:QK (.slice a5 (i+1) c5)≠some U:=fun e=>by have:=(O.live e).1;have:=Mem.get_lt aG;omega
   obtain⟨M6,aa⟩:∃M6,M6=M5.set U (some (.cells false s1 (Jq noHead (.slice a5 (i+1) c5)))):=⟨_,rfl⟩
   refine S0 ?_
   refine J0 (J7 (J0 (D8 11 @aQ @k3 @z0 @z1 @and_self @ba @qe @cC ?_)))
   refine⟨by kernel_rfl,_,sa,?_⟩
   refine⟨by decide,?_⟩
   refine S0 ?_
   refine J1 ?_
   simp only[zZ,reduceIte,yQ,yW,yX,yZ,yJ,yK,yV,zDk,Jc,Jb,J9,J8,Xx,a6,k7,nw,bx,ae,aU]
   rw[←aa]
   refine R1 @w1 ?_
   refine JK [0,1,2,3,4,10,11,12,13,14] ?_
   refine⟨M6,tR _,nb-(i+1),⟨i+1,a5,c5,rfl,rfl,by omega,O.same fun b x hb hx=>?_,by rw[aa];exact Mem.get_set_same ae _,fun b x aT hbn hx=>?_,by rw[aa,Mem.size_set];omega⟩,by omega⟩
   ·rw[aa,Mem.get_set_ne (show U≠b from fun e=>aK (by rw[hb,e]))];exact hx
   ·rw[aa,Mem.get_set_ne (Ne.symm hbn)]
    exact ac b x (fun e=>by have:=(Z.live e).1;omega) (a2 b x aT hbn hx)
  ·have aE:i=nb:=by have:=of_decide_eq_false hq;omega
   subst aE
   obtain⟨N,pe,pN⟩:=rroot_exact (S i) (by rw[ao];omega) (fun b hb=>by rw[bf i b hb];decide) M' _ Z.strs
   have ah:More M' (M'.app N):=⟨fun b x hb=>Qq M' N b x hb,by rw[UX];omega⟩
   obtain⟨H,hH⟩:∃H:Header,H=⟨id,str salt,(i:Nat),(s.length:Nat),raw,str (UG (S i)),⟨#[]⟩⟩:=⟨_,rfl⟩
   have bt:H=headOf0 secret salt id s raw (S i):=by rw[hH];unfold headOf0;rw[ao]
   have b8:(Vl secret salt id s raw).head={ H with tag:=str (Sha.tag (Sha.headKey secret) H.fields.data.toList) }:=by
    rw[bt,←aZ]
    rfl
   have rl:=rootV_len (S i)
   have sg:=fun a n c m=>signed_spec secret hsec H (by rw[hH];exact⟨by show(0:Int)≤id;omega,hid.2⟩) (by rw[hH];exact⟨by show(0:Int)≤(i:Nat);omega,by show((i:Nat):Int)≤100000;omega⟩) (by rw[hH];exact⟨by show(0:Int)≤(s.length:Nat);omega,by show((s.length:Nat):Int)≤100000;omega⟩) (by rw[hH];exact⟨by show(0:Int)≤raw;omega,by show raw≤1000000000;omega⟩) (by rw[hH];show(str salt).size≤_;rw[str_size];omega) (by rw[hH];show(str (UG (S i))).size≤_;rw[str_size];omega) a n c m
   have aS:=bw id (i:Nat) (s.length:Nat) raw (str salt) (str (UG (S i)))
   rw[←hH]at aS
   refine S0 ?_
   refine J0 (CW_drawG hmix 15 (by kernel_rfl) (by kernel_rfl) ?_)
   simp only[zZ,reduceIte,yQ,yW,yX,yZ,yJ,yK,yV,zDk,Jc,Jb,J9,J8,Xx,Xh,JA,Q3,Qo,isVal,sGuardedV,Jx,JS,yY,Nat.sub_zero,bh,a6,k7]
   refine⟨by kernel_rfl,_,N,pe,pN,?_⟩
   obtain⟨M7,b6⟩:∃M7,M7=M'.app N:=⟨_,rfl⟩
   rw[←b6]at ah
   simp only[zZ,reduceIte,yQ,yW,yX,yZ,yJ,yK,yV,zDk,Jc,Jb,J9,J8,Xx,Xh,JA,Q3,Qo,isVal,sGuardedV,Jx,JS,yY,Nat.sub_zero,aS,a6,k7,bB]
   rw[←b6]
   refine⟨by kernel_rfl,_,sg _ _ _ M7,?_⟩
   rintro _ M8 ⟨rfl,an⟩
   rw[←b8]
   have aC:=an.get _ _ (ah.get _ _ (a2 aI _ (Mem.get_lt af) (by omega) af))
   simp only[zZ,reduceIte,yQ,yW,yX,yZ,yJ,yK,yV,zDk,Jc,Jb,J9,J8,Xx,Xh,JA,Q3,Qo,isVal,sGuardedV,Jx,JS,yY,Nat.sub_zero,aC,au,aw]
   have aL:=Mem.get_set_same aC (some (.cells false s1 (Jq (Vl secret salt id s raw).head (.slice a i c))))
   refine T3 @Q4 @aL @aM ?_
   have ab:QE M4.size M8 (.slice a i c) (S i):=Z.same fun b x _ hx=>an.get b x (ah.get b x hx)
   refine⟨_,tR _,.slice a i c,rfl,?_,?_⟩
   ·rw[aZ]
    refine(ab.same fun b x hb hx=>?_).le (by omega)
    rw[Mem.get_set_ne (fun e=>by have:=(ab.live hb).1;have:=Mem.get_lt af;omega)];exact hx
   ·refine⟨fun b x hb=>?_,by rw[Mem.size_set];have:=an.size;have:=ah.size;omega⟩
    have aT:=Mem.get_lt hb
    rw[Mem.get_set_ne (by omega)]
    exact an.get b x (ah.get b x (a2 b x (by omega) (by omega) (b5 b x hb)))
end Go.Proofs.YthohbneadomgdaaGreatDoor
namespace Go.Proofs.YthohbneadomgdaaGreatDoor
open Go Go.RowKit Abs
def saltL:List UInt8:=[115,97,108,116,4,5,6,7,8,9,10,11,12,13,14,15]
theorem salt_len(j:Nat)(h:j≤12):(J5 (saltL.take (4+j))).length=4+j:=by
 unfold J5 saltL;rw[qk,qw];simp only[qt,qm];omega
theorem salt_next(j:Nat)(h:j<12):J5 (saltL.take (4+j))++[.int .u8 (((4+j:Nat):Int)%256)]=J5 (saltL.take (4+(j+1))):=by
 rcases j with _|_|_|_|_|_|_|_|_|_|_|_|j<;>first|rfl|omega
theorem salt_at(m:Mem):Abs.Spec qc 61 [.string (str [115,97,108,116])] m fun u M=>u=.string (str saltL)∧M=m:=by
 refine Abs.Spec.of_empty (by intro x hx;simp at hx;subst hx;rfl) rfl ?_ m
 refine Abs.Spec.walk Tryz.func61 (by rfl) _ Tryz.results61 _ Tryz.ntmps61 (by simp) ?_
 refine J4 (J2 ?_)
 simp only[zS,reduceIte,yQ,yW,yX,yZ,yJ,yK,yV]
 refine J4 (J2 ?_)
 simp only[zS,reduceIte,yQ,yW,yX,yZ,yJ,yK,yV,zT,Uo [115,97,108,116] (by decide)]
 have h0:Sl ((⟨[]⟩:Mem).push (.cells false 1 (J5 [115,97,108,116]))) (.slice (some ⟨(⟨[]⟩:Mem).size,0,none⟩) 4 4) (J5 (saltL.take (4+0))):=Sl.block (by simp[J5,saltL]) (Mem.get_push_new _ _)
 refine J4 (Jv (Qy [3] (fun k f m'=>∃(j:Nat)(v:Value),j+k=12∧f=[(3,v)]∧Sl m' v (J5 (saltL.take (4+j)))∧Grows ⟨[]⟩ m'∧(∀g l c,v=.slice (some ⟨g,0,none⟩) l c→(⟨[]⟩:Mem).size≤g)) 12 ?_ ?_))
 ·simp only[zS,reduceIte,yQ,yW,yX,yZ,yJ,yK,yV]
  exact⟨0,_,by omega,rfl,h0,(Grows.refl _).push _,fun g l c e=>by cases e;exact qy _⟩
 ·rintro k f m' ⟨j,v,hj,rfl,hv,a6,U⟩
  have hl:=salt_len j (by omega)
  obtain⟨g,Z,hg⟩:=hv.at (by omega)
  rw[hl]at Z
  subst Z
  refine J4 (J4 (J2 ?_))
  simp only[zS,reduceIte,yQ,yW,yX,yZ,yJ,yK,yV,zT]
  refine Q2 (decide (((4+j:Nat):Int)<16)) (by rfl) (fun hc=>Q5 ?_) (fun hc=>QF ?_)
  ·simp only[zS,reduceIte,yQ,yW,yX,yZ,yJ,yK,yV]
   have a7:j<12:=by have:=of_decide_eq_true hc;omega
   obtain⟨s',m2,I,O,Y,E⟩:=hv.app_u8 a6 U (.int .u8 (((4+j:Nat):Int)%256)) (by rw[hl];omega)
   rw[salt_next j a7]at O
   refine Jv (J2 ?_)
   simp only[zS,reduceIte,yQ,yW,yX,yZ,yJ,yK,yV,zT,wrap_u8,I]
   exact⟨k-1,⟨j+1,s',by omega,rfl,O,Y,E⟩,by omega⟩
  ·simp only[zS,reduceIte,yQ,yW,yX,yZ,yJ,yK,yV]
   have a2:j=12:=by have:=of_decide_eq_false hc;omega
   subst a2
   have e:Q1 qc m'.get 172 (.slice (some ⟨g,0,none⟩) 16 16) none (some (.int .i64 16))=some (.slice (some ⟨g,0,none⟩) 16 16):=by
    unfold Q1 X9
    simp only[qx,Zv,XA,hg]
    rfl
   have e2:Xw qc m'.get 172 9 (.slice (some ⟨g,0,none⟩) 16 16)=some (.string (str saltL)):=to_str hg rfl
   refine J4 (J2 ?_)
   simp only[zS,reduceIte,yQ,yW,yX,yZ,yJ,yK,yV,zT,e,e2]
   refine Xa ?_
   simp only[zS,reduceIte,yQ,yW,yX,yZ,yJ,yK,yV,sAnswer,sAnswer.sRes]
end Go.Proofs.YthohbneadomgdaaGreatDoor
namespace Go.Proofs.YthohbneadomgdaaGreatDoor
open Go.RowKit Abs
def arcV(x:Arc×Value):List Value:=Jq x.1.head x.2
def ArcsOwn(k:Nat)(M:Mem)(V:Value)(LA:List (Arc×Value)):Prop:=OwnL arcV 8 k M V LA∧∀x∈LA,QE k M x.2 x.1.blocks
def ZD(t:List UInt8):List UInt8:=if t.length=0 then [120]else t.take 900
def VU(sec:List UInt8)(T:List (List UInt8))(i:Nat):List Arc:=(qq i).map fun j=>Vl sec saltL ((1+j:Nat):Int) (ZD (T.getD j [])) 1000
def Up(sec:List UInt8)(T:List (List UInt8)):List Arc:=VU (sec.take 100) T (min T.length 4)
theorem cutText_len(t:List UInt8):1≤(ZD t).length∧(ZD t).length≤900:=by
 unfold ZD
 split
 ·exact⟨by decide,by decide⟩
 ·rw[qw];omega
theorem made_succ(sec:List UInt8)(T:List (List UInt8))(i:Nat):VU sec T i++[Vl sec saltL ((1+i:Nat):Int) (ZD (T.getD i [])) 1000]=VU sec T (i+1):=by
 unfold VU
 rw[qu,qB]
 rfl
theorem made_ok{sec:List UInt8}{T:List (List UInt8)}{a:Arc}(h:a∈Up sec T):ArcOk (Sha.headKey (sec.take 100)) a∧1≤a.head.id∧a.head.id≤4∧a.blocks.length≤5:=by
 unfold Up VU at h
 obtain⟨j,E,rfl⟩:=qC.1 h
 rw[List.mem_range]at E
 have hc:=cutText_len (T.getD j [])
 refine⟨arcOf_ok _ _ _ _ _ (by decide) (by omega) hc.1 (by omega) (by decide),?_,?_,?_⟩
 ·rw[arcOf_id];omega
 ·rw[arcOf_id];omega
 ·rw[arcOf_len];omega
theorem Arc_zero:Tryz.t36.zero=some (.agg (Jq noHead (.slice none 0 0)).toArray):=by kernel_rfl
theorem Arc_bytes:Tryz.t36.bytes≤1000:=by decide
theorem new_arc1(h:Header)(a:Option Addr)(n c:Nat):JF qc 30 1 [(0,.agg (Jq h (.slice a n c)).toArray)]=some (.cells false 8 (Jq h (.slice a n c))):=by kernel_rfl
theorem arcapp{k:Nat}{M:Mem}{V:Value}{L:List (Arc×Value)}(h:OwnL arcV 8 k M V L)(hk:k≤M.size)(hl:L.length≤1000000)(x:Arc×Value):
 ∃M' V',JT qc (M.push (.cells false 8 (arcV x))) 30 30 V (.slice (some ⟨M.size,0,none⟩) 1 1)=some (V',M')∧QK V'=some (M.size+1)∧OwnL arcV 8 k M' V' (L++[x])∧
  M'.size=M.size+2∧(∀b y,QK V≠some b→M.get b=some y→M'.get b=some y):=
 oapp Tryz.underlying30 inf_Arc Arc_zero sz_Arc rfl Tryz.underlying30 (fun _=>rfl) Arc_bytes h hk hl x 8
theorem ArcsOwn.same{k:Nat}{M M':Mem}{V:Value}{L:List (Arc×Value)}(h:ArcsOwn k M V L)(hs:∀b x,M.get b=some x→M'.get b=some x):ArcsOwn k M' V L:=
 ⟨h.1.same fun b x _ hx=>hs b x hx,fun x hx=>(h.2 x hx).same fun b y _ hy=>hs b y hy⟩
theorem made_spec(sec:List UInt8)(hsec:sec.length≤1000000)(T:List (List UInt8))(hT:T.length≤4000000000000000000)(hTs:∀t∈T,t.length≤4000000000000000000)(M:Mem)(v:Value)(h:StrsRd M v T):
 Abs.Spec qc 23 [.string (str sec),v] M fun u M'=>∃LA,LA.map Prod.fst=Up sec T∧ArcsOwn M.size M' u LA∧More M M':=by
 obtain⟨a,c,rfl,aO,aF,ar⟩:=h
 have ac:∀t,JC (str t)=t.length:=fun _=>rfl
 have ex:(⟨#[120]⟩:ByteArray)=str [120]:=rfl
 have es:(⟨#[115,97,108,116]⟩:ByteArray)=str [115,97,108,116]:=rfl
 refine WM Tryz.func23 Tryz.results23 Tryz.ntmps23 fun _=>?_
 refine J0 (R0 ?_)
 refine J0 (R0 ?_)
 obtain⟨S,hS⟩:∃S,S=sec.take 100:=⟨_,rfl⟩
 have aW:S.length≤100:=by rw[hS,qw];omega
 refine QB (fun f M'=>f=[(0,.string (str S)),(1,.slice a T.length c),(5,.slice none 0 0)]∧M'=M) ?_ ?_
 ·refine J0 (R1 @ac ?_)
  refine CC (decide (((sec.length:Nat):Int)>100)) (fun E=>J1 ?_) (fun E=>J3 ?_)
  ·have E:=of_decide_eq_true E
   have sl:=fun get=>Zp get (str sec) 100 (by rw[str_size];omega)
   rw[show(str sec).data.toList=sec from rfl,←hS]at sl
   have ab:∀get,Q1 qc get 9 (.string (str sec)) none (some (.int .i64 100))=some (.string (str S)):=sl
   refine S1 @ab ?_
   refine JK [0,1,5] ?_
   exact⟨M,tR _,rfl⟩
  ·have E:=of_decide_eq_false E
   refine JK [0,1,5] ?_
   exact⟨M,tR _,by rw[hS,qp (by omega)],rfl⟩
 rintro _ M9 ⟨rfl,Y⟩;replace Y:=Y.symm;subst Y
 refine J0 (J0 (R0 ?_))
 refine J7 (Jr (fun j f M'=>∃(i:Nat)(V:Value)(LA:List (Arc×Value)),j=4-i∧f=[(0,.string (str S)),(1,.slice a T.length c),(5,V),(6,.int .i64 (i:Nat))]∧i≤4∧i≤T.length∧LA.map Prod.fst=VU S T i∧
  ArcsOwn M.size M' V LA∧(∀b x,b<M.size→M.get b=some x→M'.get b=some x)∧M.size≤M'.size) 4 ?_ ?_)
 ·refine JK [0,1,5,6] ?_
  exact⟨M,tR _,0,_,[],rfl,rfl,by omega,by omega,rfl,⟨OwnL.nil _ _,fun x hx=>by cases hx⟩,fun _ _ _ h=>h,qy _⟩
 ·rintro j f M' ⟨i,V,LA,rfl,rfl,hi,aN,a8,a7,Z,ai⟩
  have ay:i=min T.length 4→Up sec T=LA.map Prod.fst:=fun e=>by rw[a8,Up,←hS,←e]
  have U:i=min T.length 4→∃LA,LA.map Prod.fst=Up sec T∧ArcsOwn M.size M' V LA∧More M M':=fun e=>⟨LA,(ay e).symm,a7,fun b x hb=>Z b x (Mem.get_lt hb) hb,ai⟩
  refine J0 (J0 (J1 ?_))
  cases q1:decide ((i:Int)<((T.length:Nat):Int))with
  |false=>
   have E:=of_decide_eq_false q1
   refine S1 @q1 ?_
   refine CF (Jn ?_)
   refine S0 ?_
   refine J0 (R0 ?_)
   refine T0 ?_
   exact⟨M',tR _,U (by omega)⟩
  |true=>
  have E:=of_decide_eq_true q1
  cases q2:decide ((i:Int)<4)with
  |false=>
   have au:=of_decide_eq_false q2
   refine S2 @q1 @q2 ?_
   refine CF (Jn ?_)
   refine S0 ?_
   refine J0 (R0 ?_)
   refine T0 ?_
   exact⟨M',tR _,U (by omega)⟩
  |true=>
  have au:=of_decide_eq_true q2
  obtain⟨t,ht⟩:∃t,T[i]?=some t:=⟨_,qj (by omega)⟩
  have aV:=hTs t (qA ht)
  have aC:T.getD i []=t:=by rw[List.getD_eq_getElem?_getD,ht];rfl
  obtain⟨bC,oC,av,az,rfl,ad,ao⟩:=ar i t ht
  have ag:=Z bC _ (Mem.get_lt ad) ad
  have cC:cellIn (oC+i) (some (.cells av 1 az))=some (.string (str t)):=ao
  have z0:(0:Int)≤(i:Int):=by omega
  have w1:IntKind.i64.wrap ((i:Int)+1)=((i+1:Nat):Int):=by rw[Xn (by omega) (by omega)];omega
  have w2:IntKind.i64.wrap (1+(i:Int))=((1+i:Nat):Int):=by rw[Xn (by omega) (by omega)];omega
  refine S2 @q1 @q2 ?_
  refine CT (J3 ?_)
  refine S0 ?_
  refine J0 (J7 (J0 (R6 @z0 @E @and_self @ag @qe @cC ?_)))
  refine QB (fun f M2=>f=[(0,.string (str S)),(1,.slice (some ⟨bC,oC,none⟩) T.length c),(5,V),(6,.int .i64 (i:Nat)),(7,.string (str (t.take 900)))]∧M2=M') ?_ ?_
  ·refine J0 (R1 @ac ?_)
   refine CC (decide (((t.length:Nat):Int)>900)) (fun E=>J1 ?_) (fun E=>J3 ?_)
   ·have E:=of_decide_eq_true E
    have sl:=fun get=>Zp get (str t) 900 (by rw[str_size];omega)
    have ab:∀get,Q1 qc get 9 (.string (str t)) none (some (.int .i64 900))=some (.string (str (t.take 900))):=sl
    refine S1 @ab ?_
    refine JK [0,1,5,6,7] ?_
    exact⟨M',tR _,rfl⟩
   ·have E:=of_decide_eq_false E
    refine JK [0,1,5,6,7] ?_
    exact⟨M',tR _,by rw[qp (by omega)],rfl⟩
  rintro _ M9 ⟨rfl,Y⟩;replace Y:=Y.symm;subst Y
  refine QB (fun f M2=>f=[(0,.string (str S)),(1,.slice (some ⟨bC,oC,none⟩) T.length c),(5,V),(6,.int .i64 (i:Nat)),(7,.string (str (ZD t)))]∧M2=M') ?_ ?_
  ·refine J0 (R1 @ac ?_)
   have tl:(t.take 900).length=min 900 t.length:=qw
   refine CC ((((t.take 900).length:Nat):Int)==0) (fun E=>J1 ?_) (fun E=>J3 ?_)
   ·have E:(((t.take 900).length:Nat):Int)=0:=by simpa using E
    refine S1 @ex ?_
    refine JK [0,1,5,6,7] ?_
    exact⟨M',tR _,by unfold ZD;rw[if_pos (by omega)],rfl⟩
   ·have E:(((t.take 900).length:Nat):Int)≠0:=by simpa using E
    refine JK [0,1,5,6,7] ?_
    exact⟨M',tR _,by unfold ZD;rw[if_neg (by omega)],rfl⟩
  rintro _ M9 ⟨rfl,Y⟩;replace Y:=Y.symm;subst Y
  have aE:=cutText_len t
  refine R1 @es ?_
  refine K1 @w2 (salt_at M') ?_
  refine⟨by kernel_rfl,_,of_spec S saltL ((1+i:Nat):Int) (ZD t) 1000 (by omega) (by decide) (by omega) aE.1 (by omega) (by decide) M',?_⟩
  rintro _ M3 ⟨VB,rfl,O,a6⟩
  obtain⟨aB,cB,rfl⟩:=O.len
  obtain⟨A,hA⟩:∃A,A=Vl S saltL ((1+i:Nat):Int) (ZD t) 1000:=⟨_,rfl⟩
  rw[←hA]at O ⊢
  have I:=a7.same a6.get
  have nw:=new_arc1 A.head aB A.blocks.length cB
  have aS:LA.length=i:=by have:=congrArg List.length a8;rw[qk]at this;rw[this];simp[VU]
  obtain⟨M4,V4,aA,aZ,aa,aL,a2⟩:=arcapp I.1 (by have:=a6.size;omega) (by omega) (A,.slice aB A.blocks.length cB)
  have af:JT qc (M3.push (.cells false 8 (Jq A.head (.slice aB A.blocks.length cB)))) 30 30 V (.slice (some ⟨M3.size,0,none⟩) 1 1)=some (V4,M4):=aA
  refine S2 @nw @af ?_
  refine R1 @w1 ?_
  refine JK [0,1,5,6] ?_
  refine⟨_,tR _,4-(i+1),⟨i+1,V4,LA++[(A,.slice aB A.blocks.length cB)],rfl,rfl,by omega,by omega,?_,⟨aa,fun x hx=>?_⟩,fun b y hbl hy=>a2 b y (fun e=>by have:=(I.1.live e).1;omega) (a6.get b y (Z b y hbl hy)),by have:=a6.size;omega⟩,by omega⟩
  ·rw[qB,a8,←made_succ,aC,hA];rfl
  ·have ae:∀b y,QE M.size M3 x.2 x.1.blocks→QK x.2=some b→M3.get b=some y→M4.get b=some y:=fun b y ho hb hy=>by
    refine a2 b y (fun e=>?_) hy
    rcases I.1 with⟨_,h2⟩|⟨_,g,_,h2,hg⟩
    ·rw[h2]at e;cases e
    ·rw[h2]at e
     have eg:g=b:=Option.some.inj e
     subst eg
     rcases ho with⟨_,h4⟩|⟨h0,g',_,h4,ah⟩
     ·rw[h4]at hb;cases hb
     ·rw[h4]at hb
      have aD:g'=g:=Option.some.inj hb
      subst aD
      rw[hg]at ah
      cases ah
   rcases List.mem_append.1 hx with hx|hx
   ·have:=I.2 x hx
    exact this.same fun b y hb hy=>ae b y this hb hy
   ·simp only[List.mem_singleton]at hx
    subst hx
    have:=O.le (k':=M.size) ai
    exact this.same fun b y hb hy=>ae b y this hb hy
end Go.Proofs.YthohbneadomgdaaGreatDoor
