/-
  The document's answer for layer 3, walked on the abstract machine: tags.
-/
import Derived.Test.YteccmcpaheepcaaGreatDoorOnce18
import Derived.Test.YteccmcpaheepcaaGreatDoorOnce01
import Derived.Test.YteccmcpaheepcaaGreatDoorOnce13
import Derived.Test.YteccmcpaheepcaaGreatDoorOnce15
import Derived.Test.YteccmcpaheepcaaGreatDoorOnce10
import Derived.Test.YteccmcpaheepcaaGreatDoorOnce03
import Derived.Test.YteccmcpaheepcaaGreatDoorOnce14
import Derived.Test.YteccmcpaheepcaaGreatDoorOnce09
set_option linter.unusedSimpArgs false
set_option linter.unusedVariables false
set_option linter.unusedSectionVars false
set_option linter.unnecessarySimpa false
set_option linter.defProp false
set_option maxRecDepth 100000
set_option maxHeartbeats 16000000
open Nat renaming reduceLT → yQ, reduceEqDiff → yK, reduceAdd → yV, reduceSub → yY, reduceMul → yU
open Int renaming reduceToNat → yW, reduceLE → yX, reduceEq → yZ, reduceLT → yJ
open Go.Proofs.Tryz renaming prog → qc, underlying110 → qw
open List renaming length_append → qd, getElem?_cons_succ → qf, getElem?_cons_zero → qh, getElem?_eq_getElem → qj, length_map → qk, length_nil → qm, replicate → qo, take_of_length_le → qp, range → qq, length_cons → qr, range_succ → qt, getElem?_map → qu, length_take → qv, map_append → qy, mem_map → qz, mem_of_getElem? → qC
open Int renaming toNat_natCast → qe, toNat_zero → qA, toNat_one → qB
open UInt8 renaming toNat_lt → qi
open Nat renaming le_refl → qx
open Array renaming length_toList → qD
namespace Go.Proofs.YteccmcpaheepcaaGreatDoor
open Go.RowKit Abs
theorem rsum_at(M:Mem)(s:ByteArray)(hs:s.size≤140737488355200):Abs.Spec qc 142 [.string s] M fun u M'=>u=.string (str (Sha.sum s.data.toList))∧M'=M:=
 Abs.Spec.of_empty (by simp[flat]) rfl ((rsum_spec ⟨[]⟩ s hs).mono fun v m' h=>h.1) M
theorem xor_byte(b c:UInt8):Value.int .u8 (bits .xor .i64 (b.toNat:Int) (c.toNat:Int)%256)=Jy (b^^^c):=by
 have hb:=qi b
 have hc:=qi c
 unfold Jy
 congr 1
 rw[XE _ _ (by omega) (by omega),UInt8.toNat_xor]
 have:b.toNat^^^c.toNat<2^8:=Nat.xor_lt_two_pow hb hc
 omega
theorem rturned_spec(m:Mem)(k:ByteArray)(c:UInt8)(hk:k.size≤140737488355200):
 Abs.Spec qc 143 [.string k,.int .i64 (c.toNat:Int)] m fun v m'=>v=.string (str (Sha.pad k.data.toList c)):=by
 obtain⟨q,hq⟩:∃q,q=k.data.toList:=⟨_,rfl⟩
 have hql:q.length=k.size:=by rw[hq,qD];rfl
 have hbs:JA k=q.length:=by rw[hq];rfl
 obtain⟨key,hkey⟩:∃key,key=if 64<q.length then Sha.sum q else q:=⟨_,rfl⟩
 have hkl:key.length≤64:=by
  rw[hkey];split
  ·rw[Sha.sum_length];decide
  ·omega
 have hpad:Sha.pad k.data.toList c=(key++qo (64-key.length) 0).map (·^^^c):=by rw[←hq,Sha.pad,Sha.key64,←hkey]
 rw[hpad]
 refine Abs.Spec.walk Tryz.func143 (by rfl) _ Tryz.results143 _ Tryz.ntmps143 (by simp) ?_
 refine J4 (J2 ?_)
 simp only[zS,reduceIte,yQ,yW,yX,yZ,yJ,yK,yV]
 refine J4 (J2 ?_)
 simp only[zS,reduceIte,yQ,yW,yX,yZ,yJ,yK,yV,zT,new_bytes k (by rw[ZN];omega),hbs,←hq]
 refine SW_mid [1,5] (fun f M=>∃v,f=[(1,.int .i64 (c.toNat:Int)),(5,v)]∧Sl M v (J5 key)∧Grows m M∧(∀g l c,v=.slice (some ⟨g,0,none⟩) l c→m.size≤g)) ?_ ?_
 ·refine J4 (J2 ?_)
  simp only[zS,reduceIte,yQ,yW,yX,yZ,yJ,yK,yV,zT,hbs]
  refine JZ (decide ((q.length:Int)>64)) (by rfl) (fun hc=>J2 ?_) (fun hc=>Q2 ?_)
  ·simp only[zS,reduceIte,yQ,yW,yX,yZ,yJ,yK,yV,zT]
   refine⟨by kernel_rfl,_,rsum_at _ k hk,?_⟩
   rintro _ M1 ⟨rfl,hM⟩
   rw[hM]
   clear hM
   have hgt:64<q.length:=by have:=of_decide_eq_true hc;omega
   have e:key=Sha.sum q:=by rw[hkey,if_pos hgt]
   simp only[zS,reduceIte,yQ,yW,yX,yZ,yJ,yK,yV,zT,Un key (by omega),Zd,←hq,←e]
   refine⟨_,rfl,Sl.block (by simp[J5]) (Mem.get_push_new _ _),((Grows.refl m).push _).push _,fun g l c e=>?_⟩
   cases e;simp
  ·simp only[zS,reduceIte,yQ,yW,yX,yZ,yJ,yK,yV]
   have hle:¬64<q.length:=by have:=of_decide_eq_false hc;omega
   have e:key=q:=by rw[hkey,if_neg hle]
   rw[e]
   refine⟨_,rfl,Sl.block (by simp[J5]) (Mem.get_push_new _ _),(Grows.refl m).push _,fun g l c e=>?_⟩
   cases e;simp
 ·rintro f M ⟨v,rfl,hv,hgr,hnew⟩
  refine J4 (Js (Qu [1,5] (fun n f M=>∃(j:Nat)(v:Value),key.length+j+n=64∧f=[(1,.int .i64 (c.toNat:Int)),(5,v)]∧Sl M v (J5 (key++qo j 0))∧Grows m M∧(∀g l c,v=.slice (some ⟨g,0,none⟩) l c→m.size≤g)) (64-key.length) ?_ ?_))
  ·simp only[zS,reduceIte,yQ,yW,yX,yZ,yJ,yK,yV]
   exact⟨0,_,by omega,rfl,by simpa using hv,hgr,hnew⟩
  ·clear hv hgr hnew
   rintro n f M ⟨j,v,hj,rfl,hv,hgr,hnew⟩
   have hbl:(J5 (key++qo j 0)).length=key.length+j:=by simp[J5]
   have hv0:=hv
   rcases hv with⟨rfl,h0⟩|⟨g,hvg,hg⟩
   ·have:=congrArg List.length h0
    rw[hbl]at this
    have hj0:key.length+j=0:=by simpa using this
    refine J4 (J4 (J2 ?_))
    simp only[zS,reduceIte,yQ,yW,yX,yZ,yJ,yK,yV,zT]
    obtain⟨s',m2,happ,hs',hgr',hnew'⟩:=hv0.app_u8 hgr hnew (Jy 0) (by rw[hbl];omega)
    have e3:J5 (key++qo j 0)++[Jy 0]=J5 (key++qo (j+1) 0):=by simp[J5,List.replicate_succ']
    rw[e3]at hs'
    replace happ:JN qc (M.push (.cells false 1 [.int .u8 0])) 110 110 (.slice none 0 0) (.slice (some ⟨M.size,0,none⟩) 1 1)=some (s',m2):=happ
    refine JZ (decide (((0:Nat):Int)<64)) (by rfl) (fun hc=>Q2 ?_) (fun hc=>absurd hc (by decide))
    simp only[zS,reduceIte,yQ,yW,yX,yZ,yJ,yK,yV]
    refine Js (J2 ?_)
    simp only[zS,reduceIte,yQ,yW,yX,yZ,yJ,yK,yV,zT,happ]
    exact⟨n-1,⟨j+1,s',by omega,rfl,hs',hgr',hnew'⟩,by omega⟩
   ·rw[hbl]at hvg
    subst hvg
    refine J4 (J4 (J2 ?_))
    simp only[zS,reduceIte,yQ,yW,yX,yZ,yJ,yK,yV,zT]
    refine JZ (decide (((key.length+j:Nat):Int)<64)) (by rfl) (fun hc=>Q2 ?_) (fun hc=>Qz ?_)
    ·simp only[zS,reduceIte,yQ,yW,yX,yZ,yJ,yK,yV]
     have hlt:=of_decide_eq_true hc
     obtain⟨s',m2,happ,hs',hgr',hnew'⟩:=hv0.app_u8 hgr hnew (Jy 0) (by rw[hbl];omega)
     have e3:J5 (key++qo j 0)++[Jy 0]=J5 (key++qo (j+1) 0):=by simp[J5,List.replicate_succ']
     rw[e3]at hs'
     replace happ:JN qc (M.push (.cells false 1 [.int .u8 0])) 110 110 (.slice (some ⟨g,0,none⟩) (key.length+j) (key.length+j)) (.slice (some ⟨M.size,0,none⟩) 1 1)=some (s',m2):=happ
     refine Js (J2 ?_)
     simp only[zS,reduceIte,yQ,yW,yX,yZ,yJ,yK,yV,zT,happ]
     exact⟨n-1,⟨j+1,s',by omega,rfl,hs',hgr',hnew'⟩,by omega⟩
    ·simp only[zS,reduceIte,yQ,yW,yX,yZ,yJ,yK,yV]
     have hje:j=64-key.length:=by have:=of_decide_eq_false hc;omega
     obtain⟨p,hp⟩:∃p,p=key++qo j 0:=⟨_,rfl⟩
     have hpl:p.length=64:=by rw[hp,qd,List.length_replicate];omega
     rw[←hp]at hg
     rw[←hje,←hp,show key.length+j=64 by omega]
     refine J4 (J4 (J2 ?_))
     simp only[zS,reduceIte,yQ,yW,yX,yZ,yJ,yK,yV]
     refine Js (Qu [1,5,6] (fun n f M=>∃t:Nat,t+n=64∧f=[(1,.int .i64 (c.toNat:Int)),(5,.slice (some ⟨g,0,none⟩) 64 64),(6,.int .i64 (t:Int))]∧M.get g=some (.cells false 1 (J5 ((p.map (·^^^c)).take t++p.drop t)))) 64 ?_ ?_)
     ·simp only[zS,reduceIte,yQ,yW,yX,yZ,yJ,yK,yV]
      exact⟨0,rfl,rfl,by simpa using hg⟩
     ·clear hg hv0 hgr hnew
      rintro n f M ⟨t,ht,rfl,hg⟩
      refine J4 (J4 (J2 ?_))
      simp only[zS,reduceIte,yQ,yW,yX,yZ,yJ,yK,yV,zT]
      refine JZ (decide ((t:Int)<64)) (by rfl) (fun hc=>Q2 ?_) (fun hc=>Qz ?_)
      ·simp only[zS,reduceIte,yQ,yW,yX,yZ,yJ,yK,yV]
       have ht64:t<64:=by have:=of_decide_eq_true hc;omega
       have xi:IntKind.i64.wrap ((t:Int)+1)=((t+1:Nat):Int):=by rw[wr (by omega) (by omega)];omega
       obtain⟨b,hb⟩:∃b,p[t]?=some b:=⟨p[t]'(by omega),qj (by omega)⟩
       have hbl:=qi b
       have hrd:(J5 ((p.map (·^^^c)).take t++p.drop t))[t]?=some (.int .u8 (b.toNat:Int)):=by
        rw[J5,qu,List.getElem?_append_right (by simp;omega),List.getElem?_drop,show t+(t-((p.map (·^^^c)).take t).length)=t by simp;omega,hb]
        rfl
       have xb:IntKind.i64.wrap (b.toNat:Int)=(b.toNat:Int):=wr (by omega) (by omega)
       have hstore:=store_u8 hg (i:=t) (by simp[J5];omega) (bits .xor .i64 (b.toNat:Int) (c.toNat:Int)%256)
       have hset:(J5 ((p.map (·^^^c)).take t++p.drop t)).set t (.int .u8 (bits .xor .i64 (b.toNat:Int) (c.toNat:Int)%256))=J5 ((p.map (·^^^c)).take (t+1)++p.drop (t+1)):=by
        rw[xor_byte]
        unfold J5
        rw[←List.map_set,List.set_append_right _ _ (by simp;omega),show t-((p.map (·^^^c)).take t).length=0 by simp;omega,List.take_add_one,qu,hb]
        have:p.drop t=b::p.drop (t+1):=by
         have h1:=List.drop_eq_getElem_cons (l:=p) (i:=t) (by omega)
         rw[h1]
         have h2:=qj (l:=p) (i:=t) (by omega)
         rw[hb]at h2
         rw[Option.some.inj h2]
        rw[this]
        simp
       rw[hset]at hstore
       refine J4 (Js (J2 ?_))
       simp only[zS,reduceIte,yQ,yW,yX,yZ,yJ,yK,yV,zT,hg,hrd,xb,wrap_u8,qe,hstore]
       refine⟨by omega,by omega,?_⟩
       refine J2 ?_
       simp only[zS,reduceIte,yQ,yW,yX,yZ,yJ,yK,yV,xi]
       exact⟨n-1,⟨t+1,by omega,rfl,Mem.get_set_same hg _⟩,by omega⟩
      ·simp only[zS,reduceIte,yQ,yW,yX,yZ,yJ,yK,yV]
       have ht64:t=64:=by have:=of_decide_eq_false hc;omega
       subst ht64
       have e:(p.map (·^^^c)).take 64++p.drop 64=p.map (·^^^c):=by
        rw[qp (by simp;omega),List.drop_of_length_le (by omega),List.append_nil]
       rw[e]at hg
       refine J4 (J2 ?_)
       simp only[zS,reduceIte,yQ,yW,yX,yZ,yJ,yK,yV,zT,to_str (n:=64) hg (by simp;omega)]
       refine X4 ?_
       simp only[zS,reduceIte,yQ,yW,yX,yZ,yJ,yK,yV,sAnswer,sAnswer.sRes]
theorem rturned_at(M:Mem)(k:ByteArray)(c:UInt8)(hk:k.size≤140737488355200):Abs.Spec qc 143 [.string k,.int .i64 (c.toNat:Int)] M fun u M'=>u=.string (str (Sha.pad k.data.toList c))∧M'=M:=
 Abs.Spec.of_empty (by intro x hx;simp at hx;rcases hx with rfl|rfl<;>rfl) rfl (rturned_spec ⟨[]⟩ k c hk) M
theorem str_small(l:List UInt8)(h:l.length≤140737488355200):(str l).size≤140737488355200:=by rw[str_size];exact h
theorem pad_len(k:List UInt8)(c:UInt8):(Sha.pad k c).length=64:=by rw[Sha.pad,List.length_map,Sha.key64_length]
theorem tag_len(k m:List UInt8):(Sha.tag k m).length=32:=by rw[Sha.tag,Sha.sum_length]
theorem rtag_spec(m:Mem)(k s:ByteArray)(hk:k.size≤140737488355000)(hs:s.size≤140737488355000):
 Abs.Spec qc 64 [.string k,.string s] m fun v _=>v=.string (str (Sha.tag k.data.toList s.data.toList)):=by
 have hsl:s.data.toList.length=s.size:=by rw[qD];rfl
 have p1:=pad_len k.data.toList 0x5c
 have p2:=pad_len k.data.toList 0x36
 have p3:=Sha.sum_length (Sha.pad k.data.toList 0x36++s.data.toList)
 refine Abs.Spec.walk Tryz.func64 (by rfl) _ Tryz.results64 _ Tryz.ntmps64 (by simp) ?_
 refine J4 (J2 ?_)
 simp only[zS,reduceIte,yQ,yW,yX,yZ,yJ,yK,yV]
 refine J4 (J2 ?_)
 simp only[zS,reduceIte,yQ,yW,yX,yZ,yJ,yK,yV]
 refine⟨by kernel_rfl,_,rturned_at _ k 0x5c (by omega),?_⟩
 rintro _ M1 ⟨rfl,_⟩
 simp only[zS,reduceIte,yQ,yW,yX,yZ,yJ,yK,yV]
 refine⟨by kernel_rfl,_,rturned_at _ k 0x36 (by omega),?_⟩
 rintro _ M2 ⟨rfl,_⟩
 have hbs:JA s=s.data.toList.length:=rfl
 simp only[zS,reduceIte,yQ,yW,yX,yZ,yJ,yK,yV,Zd,bcat_str,hbs,p2]
 refine⟨by omega,by kernel_rfl,_,rsum_at _ _ (str_small _ (by rw[qd];omega)),?_⟩
 rintro _ M3 ⟨rfl,_⟩
 simp only[zS,reduceIte,yQ,yW,yX,yZ,yJ,yK,yV,Zd,bcat_str,str_list,p1,p3]
 refine⟨by omega,by kernel_rfl,_,rsum_at _ _ (str_small _ (by rw[qd];omega)),?_⟩
 rintro _ M4 ⟨rfl,_⟩
 simp only[zS,reduceIte,yQ,yW,yX,yZ,yJ,yK,yV]
 refine X4 ?_
 simp only[zS,reduceIte,yQ,yW,yX,yZ,yJ,yK,yV,sAnswer,sAnswer.sRes,str_list]
 rfl
theorem rtag_at(M:Mem)(k s:ByteArray)(hk:k.size≤140737488355000)(hs:s.size≤140737488355000):
 Abs.Spec qc 64 [.string k,.string s] M fun v M'=>v=.string (str (Sha.tag k.data.toList s.data.toList))∧M'=M:=
 Abs.Spec.of_empty (by intro x hx;simp at hx;rcases hx with rfl|rfl<;>rfl) rfl (rtag_spec ⟨[]⟩ k s hk hs) M
theorem rwidth32(m:Mem):Abs.Spec qc 316 [.int .i64 32] m fun u M=>u=.int .i64 32∧M=m:=by
 refine WM Tryz.func316 Tryz.results316 Tryz.ntmps316 fun _=>?_
 have q1:decide ((32:Int)<1)=false:=rfl
 have q2:decide ((32:Int)>32)=false:=rfl
 refine J0 (R0 ?_)
 refine J0 (J0 (R1 @q1 ?_))
 refine CF (J3 ?_)
 refine S0 ?_
 refine J0 (J0 (R1 @q2 ?_))
 refine CF (J3 ?_)
 refine S0 ?_
 refine J0 (R0 ?_)
 refine T0 ?_
 exact⟨_,Thin.refl _,rfl⟩
theorem rsum15_at(s:List UInt8)(hs:s.length≤10000000)(m:Mem):Abs.Spec qc 288 [.int .i64 32,.string (str s)] m fun u M=>u=.string (str (Sha.sum s))∧M=m:=by
 refine Abs.Spec.of_empty (by intro x hx;simp at hx;rcases hx with rfl|rfl<;>rfl) rfl ?_ m
 have sl:∀get,JY qc get 9 (.string (str (Sha.sum s))) none (some (.int .i64 32))=some (.string (str (Sha.sum s))):=fun get=>by
  have:=Zh get (str (Sha.sum s)) 32 (by rw[str_size,Sha.sum_length];decide)
  rw[show(str (Sha.sum s)).data.toList=Sha.sum s from rfl,qp (by rw[Sha.sum_length];decide)]at this
  exact this
 refine WM Tryz.func288 Tryz.results288 Tryz.ntmps288 fun _=>?_
 refine J0 (R0 ?_)
 refine J0 (R0 ?_)
 refine⟨by kernel_rfl,_,rsum_at _ (str s) (by rw[str_size];omega),?_⟩
 rintro _ M9 ⟨rfl,e9⟩;replace e9:=e9.symm;subst e9
 have e1:(str s).data.toList=s:=rfl
 rw[e1]
 refine S0 ?_
 refine K1 @sl (rwidth32 _) ?_
 refine T0 ?_
 first|exact⟨_,Thin.refl _,rfl⟩|exact⟨_,Thin.refl _⟩|exact⟨_,Thin.refl _,rfl,rfl⟩
theorem rleaf_at(s:List UInt8)(hs:s.length≤1000000)(m:Mem):Abs.Spec qc 244 [.int .i64 32,.string (str s)] m fun u M=>u=.string (str (Ua s))∧M=m:=by
 refine Abs.Spec.of_empty (by intro x hx;simp at hx;rcases hx with rfl|rfl<;>rfl) rfl ?_ m
 refine WM Tryz.func244 Tryz.results244 Tryz.ntmps244 fun _=>?_
 have e0:(⟨#[0]⟩:ByteArray)=str [0]:=rfl
 refine J0 (R0 ?_)
 refine J0 (R3 @e0 @Zw @ZU ?_)
 refine⟨by first|omega|(simp<;>omega),?_⟩
 refine K0 (rsum15_at ([0]++s) (by simp only[qd,qr,qm];omega) _) ?_
 refine T0 ?_
 first|exact⟨_,Thin.refl _,rfl⟩|exact⟨_,Thin.refl _⟩
theorem rnode_at(a b:List UInt8)(ha:a.length≤1000000)(hb:b.length≤1000000)(m:Mem):Abs.Spec qc 290 [.int .i64 32,.string (str a),.string (str b)] m fun u M=>u=.string (str (Sha.sum (1::(a++b))))∧M=m:=by
 refine Abs.Spec.of_empty (by intro x hx;simp at hx;rcases hx with rfl|rfl|rfl<;>rfl) rfl ?_ m
 refine WM Tryz.func290 Tryz.results290 Tryz.ntmps290 fun _=>?_
 have e0:(⟨#[1]⟩:ByteArray)=str [1]:=rfl
 refine J0 (R0 ?_)
 refine J0 (R3 @e0 @Zw @ZU ?_)
 refine⟨by first|omega|(simp<;>omega),by first|omega|(simp<;>omega),?_⟩
 refine K0 (rsum15_at ([1]++a++b) (by simp only[qd,qr,qm];omega) _) ?_
 refine T0 ?_
 first|exact⟨_,Thin.refl _,rfl⟩|exact⟨_,Thin.refl _⟩
theorem rcut_at(n:Nat)(hn:n≤1000000)(m:Mem):Abs.Spec qc 289 [.int .i64 n] m fun u M=>u=.int .i64 (Sha.cut n:Nat)∧M=m:=by
 refine WM Tryz.func289 Tryz.results289 Tryz.ntmps289 fun _=>?_
 refine J0 (R0 ?_)
 refine J0 (R0 ?_)
 refine J0 (J8 (Jt (fun j f M'=>∃c:Nat,f=[(0,.int .i64 (n:Nat)),(3,.int .i64 (c:Nat))]∧Sha.cutF j c n=Sha.cut n∧1≤c∧c≤n+1∧n+1≤j+c∧M'=m) n ?_ ?_))
 ·refine JK [0,3] ?_
  exact⟨m,Thin.refl _,1,rfl,rfl,by omega,by omega,by omega,rfl⟩
 ·rintro j f M' ⟨c,rfl,hcut,h1,h2,h3,e9⟩
  replace e9:=e9.symm;subst e9
  have w2:IntKind.i64.wrap ((c:Int)*2)=((2*c:Nat):Int):=by rw[Xl (by omega) (by omega)];omega
  refine J0 (J0 (R1 @w2 ?_))
  refine CC (decide (((2*c:Nat):Int)<(n:Int))) (fun hq=>J3 ?_) (fun hq=>Jp ?_)
  ·have hlt:2*c<n:=by have:=of_decide_eq_true hq;omega
   obtain⟨f,rfl⟩:∃f,j=f+1:=⟨j-1,by omega⟩
   rw[Sha.cutF,if_pos hlt]at hcut
   refine S0 ?_
   refine J8 (R1 @w2 ?_)
   refine JK [0,3] ?_
   exact⟨_,Thin.refl _,f,⟨2*c,rfl,hcut,by omega,by omega,by omega,rfl⟩,by omega⟩
  ·have hlt:¬2*c<n:=by have:=of_decide_eq_false hq;omega
   have hc':c=Sha.cut n:=by
    cases j with
    |zero=>exact hcut
    |succ f=>rw[Sha.cutF,if_neg hlt]at hcut;exact hcut
   refine S0 ?_
   refine J0 (R0 ?_)
   refine T0 ?_
   exact⟨_,Thin.refl _,by rw[hc'],rfl⟩
theorem rroot_spec:∀(n:Nat)(L:List (List UInt8)),L.length≤n→n≤1000000→(∀x∈L,x.length≤1000000)→∀(M:Mem)(v:Value),StrsRd M v L→
 Abs.Spec qc 245 [.int .i64 32,v] M fun u M'=>u=.string (str (X5 L))∧M'=M:=by
 intro n
 induction n with
 |zero=>
  intro L hn _ _ M v h
  obtain rfl:L=[]:=List.eq_nil_of_length_eq_zero (by omega)
  obtain⟨a,c,rfl,_,hnil,_⟩:=h
  have hj:Ju []=[]:=rfl
  have q1:(((0:Nat):Int)==0)=true:=rfl
  refine WM Tryz.func245 Tryz.results245 Tryz.ntmps245 fun _=>?_
  refine J0 (R0 ?_)
  refine J0 (J0 (R2 @qm.{0} @q1 ?_))
  refine CT (J0 (R0 ?_))
  refine K0 (rsum15_at [] (by decide) M) ?_
  refine T0 ?_
  exact⟨_,Thin.refl _,by rw[X5],rfl⟩
 |succ n ih=>
  intro L hn hb hxl M v h
  by_cases hle:L.length≤n
  ·exact ih L hle (by omega) hxl M v h
  have hL:L.length=n+1:=by omega
  obtain⟨a,c,rfl,hc2,_,hrd⟩:=h
  have q1:(((L.length:Nat):Int)==0)=false:=by rw[hL];simp;omega
  by_cases h1:n=0
  ·subst h1
   obtain⟨x,rfl⟩:∃x,L=[x]:=List.length_eq_one_iff.1 hL
   obtain⟨b,o,ro,cs,rfl,hg,hcs⟩:=hrd 0 x rfl
   have q2:((([x].length:Nat):Int)==1)=true:=rfl
   have c0:cellIn (o+0) (some (.cells ro 1 cs))=some (.string (str x)):=hcs
   have z0:(0:Int)≤0:=by omega
   have z1:(0:Int)<((1:Nat):Int):=by omega
   refine WM Tryz.func245 Tryz.results245 Tryz.ntmps245 fun _=>?_
   refine J0 (R0 ?_)
   refine J0 (J0 (R1 @q1 ?_))
   refine CF (J3 ?_)
   refine S0 ?_
   refine J0 (J0 (R1 @q2 ?_))
   refine CT (J0 (R6 @List.length_singleton.{0} @z0 @z1 @and_self @hg @c0 ?_))
   refine T0 ?_
   exact⟨_,Thin.refl _,by rw[X5],rfl⟩
  ·have h2:2≤L.length:=by omega
   have cl:=Sha.cut_lt L.length h2
   have cp:=Sha.cut_pos L.length
   have hr:=rootL_cut h2
   obtain⟨ct,hct⟩:∃ct,ct=Sha.cut L.length:=⟨_,rfl⟩
   obtain⟨x0,hx0⟩:∃x,L[0]?=some x:=⟨_,qj (by omega)⟩
   obtain⟨b,o,ro,cs,rfl,hg,_⟩:=hrd 0 x0 hx0
   have rd:∀(i:Nat) x,L[i]?=some x→cs[o+i]?=some (.string (str x)):=fun i x hi=>by
    obtain⟨b',o',ro',cs',e1,e2,e3⟩:=hrd i x hi
    cases e1
    rw[hg]at e2;cases e2
    exact e3
   rw[←hct]at cl cp hr
   have q2:(((L.length:Nat):Int)==1)=false:=by simp;omega
   have cu:=rcut_at L.length (by omega) M
   rw[←hct]at cu
   have tl:(L.take ct).length=ct:=by rw[qv];omega
   have dl:(L.drop ct).length=L.length-ct:=by rw[List.length_drop]
   have r1:=ih (L.take ct) (by omega) (by omega) (fun x hm=>hxl x (List.mem_of_mem_take hm)) M (.slice (some ⟨b,o,none⟩) ct c) ⟨_,_,by rw[tl],by omega,fun e=>.inr (by simp),fun i x hi=>by
    rw[List.getElem?_take]at hi
    split at hi
    ·exact⟨b,o,ro,cs,rfl,hg,rd i x hi⟩
    ·cases hi⟩
   have r2:=ih (L.drop ct) (by omega) (by omega) (fun x hm=>hxl x (List.mem_of_mem_drop hm)) M (.slice (some ⟨b,o+ct,none⟩) (L.length-ct) (c-ct)) ⟨_,_,by rw[dl],by omega,fun e=>.inr (by simp),fun i x hi=>by
    rw[List.getElem?_drop]at hi
    exact⟨b,o+ct,ro,cs,rfl,hg,by rw[Nat.add_assoc];exact rd _ x hi⟩⟩
   have s1:=ss_upto (get:=M.get) (o:=o) (len:=L.length) (cap:=c) hg ct (by omega)
   have s2:=ss_from (get:=M.get) (o:=o) (len:=L.length) (cap:=c) hg ct (by omega)
   have nd:=rnode_at (X5 (L.take ct)) (X5 (L.drop ct)) (rootL_le fun x hm=>hxl x (List.mem_of_mem_take hm)) (rootL_le fun x hm=>hxl x (List.mem_of_mem_drop hm)) M
   refine WM Tryz.func245 Tryz.results245 Tryz.ntmps245 fun _=>?_
   refine J0 (R0 ?_)
   refine J0 (J0 (R1 @q1 ?_))
   refine CF (J3 ?_)
   refine S0 ?_
   refine J0 (J0 (R1 @q2 ?_))
   refine CF (J3 ?_)
   refine S0 ?_
   refine J0 (R0 ?_)
   refine K0 (cu) ?_
   refine J0 (QN hmix 11 (by kernel_rfl) (by kernel_rfl) ?_)
   simp only[zZ,reduceIte,yQ,yW,yX,yZ,yJ,yK,yV,zDk,Jc,Jb,Ja,J9,XQ,s1]
   refine⟨by kernel_rfl,_,r1,?_⟩
   refine⟨by decide,?_⟩
   refine S1 @s2 ?_
   refine⟨by kernel_rfl,_,r2,?_⟩
   refine⟨by decide,?_⟩
   refine S0 ?_
   refine K0 (nd) ?_
   refine T0 ?_
   exact⟨_,Thin.refl _,by rw[hr],rfl⟩
theorem rroot_exact(L:List (List UInt8))(hl:L.length≤1000)(hxl:∀x∈L,x.length≤1000000)(M:Mem)(v:Value)(h:StrsRd M v L):
 ∃N,Abs.Spec qc 176 [v] M (fun u M'=>u=.string (str (rootV L))∧M'=M.app N)∧N.all Vl=true:=by
 obtain⟨a,c,rfl,hc2,hnil,hrd⟩:=h
 obtain⟨sq,sq0,inv,stp⟩:=chainS M (L.map Ua) (by rw[qk];omega) L.length (by rw[qk];omega)
 have invL:=inv L.length (qx _)
 refine⟨(sq L.length).1,?_,invL.1⟩
 refine WM Tryz.func176 Tryz.results176 Tryz.ntmps176 fun _=>?_
 have eM:M=M.app (sq 0).1:=by rw[sq0];simp[Mem.app]
 have eV:(Value.slice none 0 0)=(sq 0).2:=by rw[sq0]
 have mfin:∀M':Mem,M'=M.app (sq L.length).1→Abs.Spec qc 245 [.int .i64 32,(sq L.length).2] M' fun u M''=>u=.string (str (X5 (L.map Ua)))∧M''=M':=fun M' e=>by
  have hown:=invL.2
  rw[qp (by rw[qk];omega)]at hown
  refine rroot_spec 1000 (L.map Ua) (by rw[qk];exact hl) (by decide) (fun y hy=>by
   obtain⟨z,_,rfl⟩:=qz.1 hy
   show(Sha.sum _).length≤_
   rw[Sha.sum_length];decide) M' _ ?_
  rw[e];exact hown.strs
 refine J0 (R0 ?_)
 refine J0 (R0 ?_)
 rw[eV]
 refine J0 (J0 (R0 ?_))
 refine J8 (Jt (fun j f M'=>∃(i:Nat),j=L.length-i∧f=[(0,.slice a L.length c),(3,(sq i).2),(4,.int .i64 (i:Nat))]∧i≤L.length∧M'=M.app (sq i).1) L.length ?_ ?_)
 ·refine JK [0,3,4] ?_
  exact⟨M,Thin.refl _,0,rfl,rfl,by omega,eM⟩
 ·rintro j f M' ⟨i,rfl,rfl,hi,rfl⟩
  refine J0 (J0 (R0 ?_))
  refine CC (decide ((i:Int)<(L.length:Int))) (fun hq=>J3 ?_) (fun hq=>Jp ?_)
  ·have hiL:=of_decide_eq_true hq
   obtain⟨x,hxi⟩:∃x,L[i]?=some x:=⟨_,qj (by omega)⟩
   obtain⟨b,o,ro,cs,rfl,hg,hcs⟩:=hrd i x hxi
   have hg':=ZO M (sq i).1 _ _ hg
   have c0:cellIn (o+i) (some (.cells ro 1 cs))=some (.string (str x)):=hcs
   have z0:(0:Int)≤(i:Int):=by omega
   have w9:IntKind.i64.wrap ((i:Int)+1)=((i+1:Nat):Int):=by rw[Xl (by omega) (by omega)];omega
   have lf:=rleaf_at x (hxl x (qC hxi)) (M.app (sq i).1)
   have nw:=Vb (Ua x)
   have st:=stp i (Ua x) (by omega) (by rw[qu,hxi];rfl)
   unfold StepS at st
   refine S0 ?_
   refine J0 (J8 (R6 @z0 @hiL @and_self @hg' @qe @c0 ?_))
   refine K2 @nw @st (lf) ?_
   refine R1 @w9 ?_
   refine JK [0,3,4] ?_
   exact⟨_,Thin.refl _,L.length-(i+1),⟨i+1,rfl,rfl,by omega,rfl⟩,by omega⟩
  ·have hiL:=of_decide_eq_false hq
   obtain rfl:i=L.length:=by omega
   have mr:=mfin _ rfl
   refine S0 ?_
   refine J0 (R0 ?_)
   refine K0 (mr) ?_
   refine T0 ?_
   exact⟨_,Thin.refl _,rfl,rfl⟩
theorem rexpand_spec(m:Mem)(k s:ByteArray)(hk:k.size≤140737488355000)(hs:s.size≤1000):
 Abs.Spec qc 246 [.string k,.string s,.int .i64 32] m fun v _=>v=.tuple #[.string (str (Sha.expand k.data.toList s.data.toList 32)),.int .i64 0]:=by
 obtain⟨T,hT⟩:∃T,T=Sha.tag k.data.toList (s.data.toList++[1]):=⟨_,rfl⟩
 have hTl:T.length=32:=by rw[hT,tag_len]
 have hexp:Sha.expand k.data.toList s.data.toList 32=T:=by
  have:Sha.expand k.data.toList s.data.toList 32=T.take 32:=by rw[hT];rfl
  rw[this,qp (by omega)]
 have hsl:s.data.toList.length=s.size:=by rw[qD];rfl
 rw[hexp]
 refine Abs.Spec.walk Tryz.func246 (by rfl) _ Tryz.results246 _ Tryz.ntmps246 (by simp) ?_
 refine J4 (J2 ?_)
 simp only[zS,reduceIte,yQ,yW,yX,yZ,yJ,yK,yV]
 refine J4 (J4 (J2 ?_))
 simp only[zS,reduceIte,yQ,yW,yX,yZ,yJ,yK,yV,zT,Region.wanted,vPick,qf,qh,yJ,Int.reduceGT,decide_false,decide_true,beq_self_eq_true]
 refine JZ false (by rfl) (fun h=>by cases h) (fun _=>Q2 ?_)
 simp only[zS,reduceIte,yQ,yW,yX,yZ,yJ,yK,yV]
 refine J4 (J2 ?_)
 simp only[zS,reduceIte,yQ,yW,yX,yZ,yJ,yK,yV]
 refine J4 (J2 ?_)
 simp only[zS,reduceIte,yQ,yW,yX,yZ,yJ,yK,yV]
 refine J4 (J4 (J2 ?_))
 simp only[zS,reduceIte,yQ,yW,yX,yZ,yJ,yK,yV]
 refine Js (Qu [0,1,2,8,9,10] (fun n f M=>(n=1∧f=[(0,.string k),(1,.string s),(2,.int .i64 32),(8,.string (str [])),(9,.string (str [])),(10,.int .i64 1)])∨(n=0∧∃v9 v10,f=[(0,.string k),(1,.string s),(2,.int .i64 32),(8,.string (str T)),(9,v9),(10,v10)])) 1 ?_ ?_)
 ·simp only[zS,reduceIte,yQ,yW,yX,yZ,yJ,yK,yV]
  exact .inl rfl
 ·rintro n f M (⟨rfl,rfl⟩|⟨rfl,v9,v10,rfl⟩)
  ·refine J4 (J4 (J2 ?_))
   simp only[zS,reduceIte,yQ,yW,yX,yZ,yJ,yK,yV,zT,Zd,qm]
   refine JZ true (by rfl) (fun h=>Q2 ?_) (fun h=>by cases h)
   simp only[zS,reduceIte,yQ,yW,yX,yZ,yJ,yK,yV]
   have hbs:JA s=s.data.toList.length:=rfl
   have hw1:IntKind.u8.wrap 1=1:=rfl
   have hgb:∀M:Mem,(M.push (.cells false 1 [.int .u8 1])).get M.size=some (.cells false 1 (J5 [1])):=fun M=>Mem.get_push_new _ _
   refine J4 (Js (J4 (J2 ?_)))
   simp only[zS,reduceIte,yQ,yW,yX,yZ,yJ,yK,yV,zT,Zd,bcat_str,hbs,hw1,str_list,qm,qd,qr,to_str (n:=1) (l:=[1]) (hgb _) rfl]
   refine⟨by omega,by omega,by kernel_rfl,_,rtag_at _ _ _ hk (by rw[str_size,qd];simp;omega),?_⟩
   rintro _ M1 ⟨rfl,_⟩
   simp only[str_list]
   rw[←hT]
   have xi:IntKind.i64.wrap (1+1)=2:=rfl
   simp only[zS,reduceIte,yQ,yW,yX,yZ,yJ,yK,yV]
   refine J2 ?_
   simp only[zS,reduceIte,yQ,yW,yX,yZ,yJ,yK,yV,zT,Zd,bcat_str,str_list,qm,hTl]
   refine⟨by omega,?_⟩
   refine J2 ?_
   simp only[zS,reduceIte,yQ,yW,yX,yZ,yJ,yK,yV,xi]
   exact⟨0,.inr ⟨rfl,_,_,rfl⟩,by omega⟩
  ·refine J4 (J4 (J2 ?_))
   simp only[zS,reduceIte,yQ,yW,yX,yZ,yJ,yK,yV,zT,Zd,hTl]
   refine JZ false (by rfl) (fun h=>by cases h) (fun h=>Qz ?_)
   simp only[zS,reduceIte,yQ,yW,yX,yZ,yJ,yK,yV]
   refine J4 (J2 ?_)
   have hb:bsub (str T) 0 32=str T:=by
    show(⟨⟨(T.drop 0).take 32⟩⟩:ByteArray)=⟨⟨T⟩⟩
    rw[List.drop_zero,qp (by omega)]
   simp only[zS,reduceIte,yQ,yW,yX,yZ,yJ,yK,yV,zT,slice_str (str T) 32 (by decide) (by rw[Zd,hTl];decide),hb]
   refine X4 ?_
   simp only[zS,reduceIte,yQ,yW,yX,yZ,yJ,yK,yV,sAnswer,sAnswer.sRes]
theorem rexpand_at(M:Mem)(k s:ByteArray)(hk:k.size≤140737488355000)(hs:s.size≤1000):
 Abs.Spec qc 246 [.string k,.string s,.int .i64 32] M fun v M'=>v=.tuple #[.string (str (Sha.expand k.data.toList s.data.toList 32)),.int .i64 0]∧M'=M:=
 Abs.Spec.of_flat (by intro x hx;simp at hx;rcases hx with rfl|rfl|rfl<;>rfl) rfl fun w=>Calls.of_flat_val (by intro x hx;simp at hx;rcases hx with rfl|rfl|rfl<;>rfl) rfl (rexpand_spec ⟨[]⟩ k s hk hs) w
theorem new_keys:Qd qc 94=some (.cells false 1 [.string ⟨#[]⟩,.string ⟨#[]⟩,.string ⟨#[]⟩]):=by kernel_rfl
theorem build_keys(a b c:ByteArray):Qo qc 94 [(0,.string a),(1,.string b),(2,.string c)]=some (.agg #[.string a,.string b,.string c]):=by kernel_rfl
theorem inf_keys:qc.info? 94=some Tryz.t94:=by kernel_rfl
theorem keys_size:Tryz.t94.size=3:=rfl
theorem rkeys_spec(m:Mem)(secret salt:ByteArray)(h1:secret.size≤140737488355000)(h2:salt.size≤140737488355000):
 Abs.Spec qc 177 [.string secret,.string salt] m fun v _=>v=keysV secret.data.toList salt.data.toList:=by
 have ht:∀a b,(str (Sha.tag a b)).size≤140737488355000:=fun a b=>by rw[str_size,Sha.tag_length];decide
 refine Abs.Spec.walk Tryz.func177 (by rfl) _ Tryz.results177 _ Tryz.ntmps177 (by simp) ?_
 refine J4 (J2 ?_)
 simp only[zS,reduceIte,yQ,yW,yX,yZ,yJ,yK,yV,new_keys]
 refine J4 (J2 ?_)
 simp only[zS,reduceIte,yQ,yW,yX,yZ,yJ,yK,yV]
 refine⟨by kernel_rfl,_,rtag_at _ _ _ h2 h1,?_⟩
 rintro _ M1 ⟨rfl,hM1⟩
 simp only[zS,reduceIte,yQ,yW,yX,yZ,yJ,yK,yV]
 refine J4 (J2 ?_)
 simp only[zS,reduceIte,yQ,yW,yX,yZ,yJ,yK,yV]
 refine⟨by kernel_rfl,_,rexpand_at _ _ _ (ht _ _) (by decide),?_⟩
 rintro _ M2 ⟨rfl,hM2⟩
 simp only[zS,reduceIte,yQ,yW,yX,yZ,yJ,yK,yV,qf,qh]
 refine J4 (J2 ?_)
 simp only[zS,reduceIte,yQ,yW,yX,yZ,yJ,yK,yV]
 refine⟨by kernel_rfl,_,rexpand_at _ _ _ (ht _ _) (by decide),?_⟩
 rintro _ M3 ⟨rfl,hM3⟩
 simp only[zS,reduceIte,yQ,yW,yX,yZ,yJ,yK,yV,qf,qh]
 refine J4 (J2 ?_)
 simp only[zS,reduceIte,yQ,yW,yX,yZ,yJ,yK,yV]
 refine⟨by kernel_rfl,_,rtag_at _ _ _ (by decide) h1,?_⟩
 rintro _ M4 ⟨rfl,hM4⟩
 simp only[zS,reduceIte,yQ,yW,yX,yZ,yJ,yK,yV]
 refine⟨by kernel_rfl,_,rexpand_at _ _ _ (ht _ _) (by decide),?_⟩
 rintro _ M5 ⟨rfl,hM5⟩
 simp only[zS,reduceIte,yQ,yW,yX,yZ,yJ,yK,yV,qf,qh]
 have hM:M5=m.push (.cells false 1 [.string ⟨#[]⟩,.string ⟨#[]⟩,.string ⟨#[]⟩]):=by rw[hM5,hM4,hM3,hM2,hM1]
 have hg:M5.get m.size=some (.cells false 1 [.string ⟨#[]⟩,.string ⟨#[]⟩,.string ⟨#[]⟩]):=by rw[hM,Mem.get_push_new]
 have hst:∀a b c:ByteArray,Qe qc M5 94 (.pointer (some ⟨m.size,0,none⟩)) (.agg #[.string a,.string b,.string c])=some (M5.set m.size (some (.cells false 1 [.string a,.string b,.string c]))):=fun a b c=>by
  unfold Qe
  simp only[hg,inf_keys,keys_size]
  rfl
 have hld:∀a b c:ByteArray,UW qc (M5.set m.size (some (.cells false 1 [.string a,.string b,.string c]))) 94 (.pointer (some ⟨m.size,0,none⟩))=some (.agg #[.string a,.string b,.string c]):=fun a b c=>by
  unfold UW
  simp only[Mem.get_set_same hg,inf_keys,keys_size,Tryz.underlying94]
  rfl
 refine J4 (J2 ?_)
 simp only[zS,reduceIte,yQ,yW,yX,yZ,yJ,yK,yV,vBuild,build_keys,hst]
 refine X4 ?_
 simp only[zS,reduceIte,yQ,yW,yX,yZ,yJ,yK,yV,sAnswer,sAnswer.sRes,hld]
 rfl
def Cha.rotl(x n:Nat):Nat:=(x*2^n|||x/2^(32-n))%4294967296
def Cha.add(x y:Nat):Nat:=(x+y)%4294967296
def Cha.quarter(a b c d:Nat):Nat×Nat×Nat×Nat:=
 let a1:=Cha.add a b
 let d1:=Cha.rotl (d^^^a1) 16
 let c1:=Cha.add c d1
 let b1:=Cha.rotl (b^^^c1) 12
 let a2:=Cha.add a1 b1
 let d2:=Cha.rotl (d1^^^a2) 8
 let c2:=Cha.add c1 d2
 let b2:=Cha.rotl (b1^^^c2) 7
 (a2,b2,c2,d2)
theorem Cha.rotl_lt(x n:Nat):Cha.rotl x n<4294967296:=Nat.mod_lt _ (by decide)
theorem Cha.add_lt(x n:Nat):Cha.add x n<4294967296:=Nat.mod_lt _ (by decide)
theorem rotl_spec(m:Mem)(x n:Nat)(h1:1≤n)(h2:n≤16)(hx:x<4294967296):
 Abs.Spec qc 329 [.int .i64 (x:Int),.int .i64 (n:Int)] m fun v _=>v=.int .i64 (Cha.rotl x n:Nat):=by
 have hb:x*2^n<281474976710656:=Nat.lt_of_lt_of_le (Nat.mul_lt_mul_of_pos_right hx (Nat.pow_pos (by decide))) (by
  have:2^n≤2^16:=Nat.pow_le_pow_right (by decide) h2
  omega)
 have hd:x/2^(32-n)≤x:=Nat.div_le_self _ _
 have e1:IntKind.i64.wrap ((x:Int)*2^min (n:Int).toNat IntKind.i64.bits)=((x*2^n:Nat):Int):=by
  rw[Zy,qe,show min n 64=n by omega]
  have:(x:Int)*2^n=((x*2^n:Nat):Int):=by push_cast;rfl
  rw[this,wr (by omega) (by omega)]
 have e2:IntKind.i64.wrap (32-(n:Int))=((32-n:Nat):Int):=by rw[wr (by omega) (by omega)];omega
 have e3:(x:Int).fdiv (2^min ((32-n:Nat):Int).toNat IntKind.i64.bits)=((x/2^(32-n):Nat):Int):=by
  rw[Zy,qe,show min (32-n) 64=32-n by omega,Int.fdiv_eq_ediv_of_nonneg _ (Int.le_of_lt (Int.pow_pos (by decide)))]
  push_cast;rfl
 have hor:x*2^n|||x/2^(32-n)<2^48:=Nat.or_lt_two_pow hb (by omega)
 have e4:bits .and .i64 (bits .or .i64 ((x*2^n:Nat):Int) ((x/2^(32-n):Nat):Int)) 4294967295=(Cha.rotl x n:Nat):=by
  rw[VU _ _ (by omega) (by omega),UL _ (by omega)];rfl
 refine Abs.Spec.walk Tryz.func329 (by rfl) _ Tryz.results329 _ Tryz.ntmps329 (by simp) ?_
 refine J4 (J2 ?_)
 simp only[zS,reduceIte,yQ,yW,yX,yZ,yJ,yK,yV]
 refine J4 (Z0 hmix 7 (by kernel_rfl) (by kernel_rfl) ?_)
 simp only[zS,reduceIte,yQ,yW,yX,yZ,yJ,yK,yV,e1,e2,e3,e4]
 refine⟨by omega,by omega,?_⟩
 refine X4 ?_
 simp only[zS,reduceIte,yQ,yW,yX,yZ,yJ,yK,yV,sAnswer,sAnswer.sRes]
theorem rotl_at(M:Mem)(x n:Nat)(h1:1≤n)(h2:n≤16)(hx:x<4294967296):
 Abs.Spec qc 329 [.int .i64 (x:Int),.int .i64 (n:Int)] M fun v M'=>v=.int .i64 (Cha.rotl x n:Nat)∧M'=M:=
 Abs.Spec.of_flat (by intro x hx;simp at hx;rcases hx with rfl|rfl<;>rfl) rfl fun w=>Calls.of_flat_val (by intro x hx;simp at hx;rcases hx with rfl|rfl<;>rfl) rfl (rotl_spec ⟨[]⟩ x n h1 h2 hx) w
theorem x32(a b:Nat)(ha:a<4294967296)(hb:b<4294967296):bits .xor .i64 (a:Int) (b:Int)=((a^^^b:Nat):Int):=XE _ _ (by omega) (by omega)
theorem a32(a b:Nat)(ha:a<4294967296)(hb:b<4294967296):bits .and .i64 (IntKind.i64.wrap ((a:Int)+(b:Int))) 4294967295=(Cha.add a b:Nat):=sum_i64 a b ha hb
theorem quarter_spec(m:Mem)(a b c d:Nat)(ha:a<4294967296)(hb:b<4294967296)(hc:c<4294967296)(hd:d<4294967296):
 Abs.Spec qc 319 [.int .i64 (a:Int),.int .i64 (b:Int),.int .i64 (c:Int),.int .i64 (d:Int)] m fun v _=>v=.tuple #[.int .i64 ((Cha.quarter a b c d).1:Nat),.int .i64 ((Cha.quarter a b c d).2.1:Nat),.int .i64 ((Cha.quarter a b c d).2.2.1:Nat),.int .i64 ((Cha.quarter a b c d).2.2.2:Nat)]:=by
 have mk:∀x:Nat,x<4294967296→bits .and .i64 (x:Int) 4294967295=(x:Int):=fun x hx=>by rw[UL _ (by omega)];omega
 have A:=Cha.add_lt
 have T:=Cha.rotl_lt
 have X:∀x y:Nat,x<4294967296→y<4294967296→x^^^y<4294967296:=fun x y h1 h2=>Nat.xor_lt_two_pow (n:=32) h1 h2
 refine Abs.Spec.walk Tryz.func319 (by rfl) _ Tryz.results319 _ Tryz.ntmps319 (by simp) ?_
 refine J4 (J2 ?_)
 simp only[zS,reduceIte,yQ,yW,yX,yZ,yJ,yK,yV]
 refine J4 (J2 ?_)
 simp only[zS,reduceIte,yQ,yW,yX,yZ,yJ,yK,yV,mk a ha]
 refine J4 (J2 ?_)
 simp only[zS,reduceIte,yQ,yW,yX,yZ,yJ,yK,yV,mk b hb]
 refine J4 (J2 ?_)
 simp only[zS,reduceIte,yQ,yW,yX,yZ,yJ,yK,yV,mk c hc]
 refine J4 (J2 ?_)
 simp only[zS,reduceIte,yQ,yW,yX,yZ,yJ,yK,yV,mk d hd]
 refine SW_keep [0,1,2,3] ?_
 simp only[zS,reduceIte,yQ,yW,yX,yZ,yJ,yK,yV]
 refine J4 (J2 ?_)
 simp only[zS,reduceIte,yQ,yW,yX,yZ,yJ,yK,yV,a32 a b ha hb]
 refine J4 (J2 ?_)
 simp only[zS,reduceIte,yQ,yW,yX,yZ,yJ,yK,yV,x32 d (Cha.add a b) hd (A _ _)]
 refine⟨by kernel_rfl,_,rotl_at _ _ 16 (by decide) (by decide) (X _ _ hd (A _ _)),?_⟩
 rintro _ M1 ⟨rfl,hM⟩
 clear hM
 simp only[zS,reduceIte,yQ,yW,yX,yZ,yJ,yK,yV]
 refine J4 (J2 ?_)
 simp only[zS,reduceIte,yQ,yW,yX,yZ,yJ,yK,yV,a32 c (Cha.rotl (d^^^(Cha.add a b)) 16) hc (T _ _)]
 refine J4 (J2 ?_)
 simp only[zS,reduceIte,yQ,yW,yX,yZ,yJ,yK,yV,x32 b (Cha.add c (Cha.rotl (d^^^(Cha.add a b)) 16)) hb (A _ _)]
 refine⟨by kernel_rfl,_,rotl_at _ _ 12 (by decide) (by decide) (X _ _ hb (A _ _)),?_⟩
 rintro _ M1 ⟨rfl,hM⟩
 clear hM
 simp only[zS,reduceIte,yQ,yW,yX,yZ,yJ,yK,yV]
 refine J4 (J2 ?_)
 simp only[zS,reduceIte,yQ,yW,yX,yZ,yJ,yK,yV,a32 (Cha.add a b) (Cha.rotl (b^^^(Cha.add c (Cha.rotl (d^^^(Cha.add a b)) 16))) 12) (A _ _) (T _ _)]
 refine J4 (J2 ?_)
 simp only[zS,reduceIte,yQ,yW,yX,yZ,yJ,yK,yV,x32 (Cha.rotl (d^^^(Cha.add a b)) 16) (Cha.add (Cha.add a b) (Cha.rotl (b^^^(Cha.add c (Cha.rotl (d^^^(Cha.add a b)) 16))) 12)) (T _ _) (A _ _)]
 refine⟨by kernel_rfl,_,rotl_at _ _ 8 (by decide) (by decide) (X _ _ (T _ _) (A _ _)),?_⟩
 rintro _ M1 ⟨rfl,hM⟩
 clear hM
 simp only[zS,reduceIte,yQ,yW,yX,yZ,yJ,yK,yV]
 refine J4 (J2 ?_)
 simp only[zS,reduceIte,yQ,yW,yX,yZ,yJ,yK,yV,a32 (Cha.add c (Cha.rotl (d^^^(Cha.add a b)) 16)) (Cha.rotl ((Cha.rotl (d^^^(Cha.add a b)) 16)^^^(Cha.add (Cha.add a b) (Cha.rotl (b^^^(Cha.add c (Cha.rotl (d^^^(Cha.add a b)) 16))) 12))) 8) (A _ _) (T _ _)]
 refine J4 (J2 ?_)
 simp only[zS,reduceIte,yQ,yW,yX,yZ,yJ,yK,yV,x32 (Cha.rotl (b^^^(Cha.add c (Cha.rotl (d^^^(Cha.add a b)) 16))) 12) (Cha.add (Cha.add c (Cha.rotl (d^^^(Cha.add a b)) 16)) (Cha.rotl ((Cha.rotl (d^^^(Cha.add a b)) 16)^^^(Cha.add (Cha.add a b) (Cha.rotl (b^^^(Cha.add c (Cha.rotl (d^^^(Cha.add a b)) 16))) 12))) 8)) (T _ _) (A _ _)]
 refine⟨by kernel_rfl,_,rotl_at _ _ 7 (by decide) (by decide) (X _ _ (T _ _) (A _ _)),?_⟩
 rintro _ M1 ⟨rfl,hM⟩
 clear hM
 simp only[zS,reduceIte,yQ,yW,yX,yZ,yJ,yK,yV]
 refine J4 (J2 ?_)
 simp only[zS,reduceIte,yQ,yW,yX,yZ,yJ,yK,yV]
 refine X4 ?_
 simp only[zS,reduceIte,yQ,yW,yX,yZ,yJ,yK,yV,sAnswer,sAnswer.sRes]
 rfl
theorem quarter_at(M:Mem)(a b c d:Nat)(ha:a<4294967296)(hb:b<4294967296)(hc:c<4294967296)(hd:d<4294967296):
 Abs.Spec qc 319 [.int .i64 (a:Int),.int .i64 (b:Int),.int .i64 (c:Int),.int .i64 (d:Int)] M fun v M'=>v=.tuple #[.int .i64 ((Cha.quarter a b c d).1:Nat),.int .i64 ((Cha.quarter a b c d).2.1:Nat),.int .i64 ((Cha.quarter a b c d).2.2.1:Nat),.int .i64 ((Cha.quarter a b c d).2.2.2:Nat)]∧M'=M:=
 Abs.Spec.of_flat (by intro x hx;simp at hx;rcases hx with rfl|rfl|rfl|rfl<;>rfl) rfl fun w=>Calls.of_flat_val (by intro x hx;simp at hx;rcases hx with rfl|rfl|rfl|rfl<;>rfl) rfl (quarter_spec ⟨[]⟩ a b c d ha hb hc hd) w
def Cha.word(l:List UInt8)(i:Nat):Nat:=(l.getD (4*i) 0).toNat+(l.getD (4*i+1) 0).toNat*256+(l.getD (4*i+2) 0).toNat*65536+(l.getD (4*i+3) 0).toNat*16777216
def Cha.words(l:List UInt8)(n:Nat):List Nat:=(qq n).map (Cha.word l)
theorem Cha.word_lt(l:List UInt8)(i:Nat):Cha.word l i<4294967296:=by
 unfold Cha.word
 have h0:=qi (l.getD (4*i) 0)
 have h1:=qi (l.getD (4*i+1) 0)
 have h2:=qi (l.getD (4*i+2) 0)
 have h3:=qi (l.getD (4*i+3) 0)
 omega
theorem words_spec(m:Mem)(s:ByteArray)(hs:s.size≤1000000):
 Abs.Spec qc 318 [.string s] m fun v m'=>Sl m' v ((Cha.words s.data.toList (s.size/4)).map natV)∧Grows m m'∧(∀g l c,v=.slice (some ⟨g,0,none⟩) l c→m.size≤g):=by
 obtain⟨l,hl⟩:∃l,l=s.data.toList:=⟨_,rfl⟩
 have hbs:JA s=s.size:=ZN s
 rw[←hl]
 refine Abs.Spec.walk Tryz.func318 (by rfl) _ Tryz.results318 _ Tryz.ntmps318 (by simp) ?_
 refine J4 (J2 ?_)
 simp only[zS,reduceIte,yQ,yW,yX,yZ,yJ,yK,yV]
 refine J4 (J2 ?_)
 simp only[zS,reduceIte,yQ,yW,yX,yZ,yJ,yK,yV]
 refine J4 (J4 (J2 ?_))
 simp only[zS,reduceIte,yQ,yW,yX,yZ,yJ,yK,yV]
 refine Js (Qu [0,3,4] (fun k f M=>∃(t:Nat)(o:Value),t+k=s.size/4∧f=[(0,.string s),(3,o),(4,.int .i64 ((4*t:Nat):Int))]∧Sl M o ((Cha.words l t).map natV)∧Grows m M∧(∀g l c,o=.slice (some ⟨g,0,none⟩) l c→m.size≤g)) (s.size/4) ?_ ?_)
 ·simp only[zS,reduceIte,yQ,yW,yX,yZ,yJ,yK,yV]
  exact⟨0,_,by omega,rfl,.inl ⟨rfl,rfl⟩,Grows.refl m,fun g l c e=>by cases e⟩
 ·rintro k f M ⟨t,o,ht,rfl,ho,hgr,hnew⟩
  have w3:IntKind.i64.wrap (((4*t:Nat):Int)+3)=((4*t+3:Nat):Int):=by rw[wr (by omega) (by omega)];omega
  refine J4 (J4 (J2 ?_))
  simp only[zS,reduceIte,yQ,yW,yX,yZ,yJ,yK,yV,zT,hbs,w3]
  refine JZ (decide (((4*t+3:Nat):Int)<(s.size:Int))) (by rfl) (fun hc=>Q2 ?_) (fun hc=>Qz ?_)
  ·simp only[zS,reduceIte,yQ,yW,yX,yZ,yJ,yK,yV]
   have hlt:=of_decide_eq_true hc
   have hlt':4*t+3<s.size:=by omega
   have w1:IntKind.i64.wrap (((4*t:Nat):Int)+1)=((4*t+1:Nat):Int):=by rw[wr (by omega) (by omega)];omega
   have w2:IntKind.i64.wrap (((4*t:Nat):Int)+2)=((4*t+2:Nat):Int):=by rw[wr (by omega) (by omega)];omega
   have w4:IntKind.i64.wrap (((4*t:Nat):Int)+4)=((4*(t+1):Nat):Int):=by rw[wr (by omega) (by omega)];omega
   have i0:=Abs.index_str s ((4*t:Nat):Int) (4*t) rfl (by omega)
   have i1:=Abs.index_str s ((4*t+1:Nat):Int) (4*t+1) rfl (by omega)
   have i2:=Abs.index_str s ((4*t+2:Nat):Int) (4*t+2) rfl (by omega)
   have i3:=Abs.index_str s ((4*t+3:Nat):Int) (4*t+3) rfl (by omega)
   rw[←hl]at i0 i1 i2 i3
   obtain⟨a0,e0⟩:∃a:Nat,a=(l.getD (4*t) 0).toNat:=⟨_,rfl⟩
   obtain⟨a1,e1⟩:∃a:Nat,a=(l.getD (4*t+1) 0).toNat:=⟨_,rfl⟩
   obtain⟨a2,e2⟩:∃a:Nat,a=(l.getD (4*t+2) 0).toNat:=⟨_,rfl⟩
   obtain⟨a3,e3⟩:∃a:Nat,a=(l.getD (4*t+3) 0).toNat:=⟨_,rfl⟩
   have b0:a0<256:=by rw[e0];exact qi _
   have b1:a1<256:=by rw[e1];exact qi _
   have b2:a2<256:=by rw[e2];exact qi _
   have b3:a3<256:=by rw[e3];exact qi _
   have hw:Cha.word l t=a0+a1*256+a2*65536+a3*16777216:=by rw[e0,e1,e2,e3];rfl
   rw[←e0]at i0
   rw[←e1]at i1
   rw[←e2]at i2
   rw[←e3]at i3
   have v0:IntKind.i64.wrap (a0:Int)=(a0:Int):=wr (by omega) (by omega)
   have v1:IntKind.i64.wrap (a1:Int)=(a1:Int):=wr (by omega) (by omega)
   have v2:IntKind.i64.wrap (a2:Int)=(a2:Int):=wr (by omega) (by omega)
   have v3:IntKind.i64.wrap (a3:Int)=(a3:Int):=wr (by omega) (by omega)
   have v4:IntKind.i64.wrap ((a1:Int)*256)=(a1:Int)*256:=wr (by omega) (by omega)
   have v5:IntKind.i64.wrap ((a2:Int)*65536)=(a2:Int)*65536:=wr (by omega) (by omega)
   have v6:IntKind.i64.wrap ((a3:Int)*16777216)=(a3:Int)*16777216:=wr (by omega) (by omega)
   have v7:IntKind.i64.wrap ((a0:Int)+(a1:Int)*256)=(a0:Int)+(a1:Int)*256:=wr (by omega) (by omega)
   have v8:IntKind.i64.wrap ((a0:Int)+(a1:Int)*256+(a2:Int)*65536)=(a0:Int)+(a1:Int)*256+(a2:Int)*65536:=wr (by omega) (by omega)
   have v9:IntKind.i64.wrap ((a0:Int)+(a1:Int)*256+(a2:Int)*65536+(a3:Int)*16777216)=((Cha.word l t:Nat):Int):=by rw[wr (by omega) (by omega),hw];omega
   have hxl:((Cha.words l t).map natV).length=t:=by simp[Cha.words]
   obtain⟨s',m2,happ,hs',hgr',hnew'⟩:=ho.app_int hgr hnew (natV (Cha.word l t)) (by omega)
   have hcat:(Cha.words l t).map natV++[natV (Cha.word l t)]=(Cha.words l (t+1)).map natV:=by simp[Cha.words,qt]
   rw[hcat]at hs'
   unfold natV at happ
   refine J4 (Js (Z0 hmix 27 (by kernel_rfl) (by kernel_rfl) ?_))
   simp only[zS,reduceIte,yQ,yW,yX,yZ,yJ,yK,yV,zT,w1,w2,w3,i0,i1,i2,i3,v0,v1,v2,v3,v4,v5,v6,v7,v8,v9,happ]
   refine J2 ?_
   simp only[zS,reduceIte,yQ,yW,yX,yZ,yJ,yK,yV,w4]
   exact⟨k-1,⟨t+1,s',by omega,rfl,hs',hgr',hnew'⟩,by omega⟩
  ·simp only[zS,reduceIte,yQ,yW,yX,yZ,yJ,yK,yV]
   have hge:=of_decide_eq_false hc
   have hte:t=s.size/4:=by omega
   subst hte
   refine J4 (J2 ?_)
   simp only[zS,reduceIte,yQ,yW,yX,yZ,yJ,yK,yV]
   refine X4 ?_
   simp only[zS,reduceIte,yQ,yW,yX,yZ,yJ,yK,yV,sAnswer,sAnswer.sRes]
   exact⟨ho,hgr,hnew⟩
def Cha.rows:List (List Nat):=[[0,4,8,12],[1,5,9,13],[2,6,10,14],[3,7,11,15],[0,5,10,15],[1,6,11,12],[2,7,8,13],[3,4,9,14]]
def Cha.at(r k:Nat):Nat:=((Cha.rows.getD r []).getD k 0)
def Cha.step(x:List Nat)(r:Nat):List Nat:=
 let q:=Cha.quarter (x.getD (Cha.at r 0) 0) (x.getD (Cha.at r 1) 0) (x.getD (Cha.at r 2) 0) (x.getD (Cha.at r 3) 0)
 (((x.set (Cha.at r 0) q.1).set (Cha.at r 1) q.2.1).set (Cha.at r 2) q.2.2.1).set (Cha.at r 3) q.2.2.2
def Cha.inner(x:List Nat):Nat→List Nat
 |0=>x
 |r+1=>Cha.step (Cha.inner x r) r
def Cha.dbl(x:List Nat):Nat→List Nat
 |0=>x
 |n+1=>Cha.inner (Cha.dbl x n) 8
def Cha.init(key nonce:List UInt8)(c:Nat):List Nat:=[1634760805,857760878,2036477234,1797285236]++Cha.words key 8++[c]++Cha.words nonce 3
def Cha.le(w:Nat):Nat→List UInt8
 |0=>[]
 |n+1=>UInt8.ofNat (w%256)::Cha.le (w/256) n
def Cha.outN(x s:List Nat)(n:Nat):List UInt8:=(qq n).flatMap fun i=>Cha.le (Cha.add (x.getD i 0) (s.getD i 0)) 4
def Cha.block(key nonce:List UInt8)(c:Nat):List UInt8:=Cha.outN (Cha.dbl (Cha.init key nonce c) 10) (Cha.init key nonce c) 16
theorem Cha.at_lt(r k:Nat)(hr:r<8)(hk:k<4):Cha.at r k<16:=by
 have:∀r:Fin 8,∀k:Fin 4,Cha.at r.val k.val<16:=by decide
 exact this ⟨r,hr⟩ ⟨k,hk⟩
def Cha.Ok(x:List Nat):Prop:=x.length=16∧∀i,x.getD i 0<4294967296
theorem Cha.Ok.set{x:List Nat}(h:Cha.Ok x)(i v:Nat)(hv:v<4294967296):Cha.Ok (x.set i v):=by
 refine⟨by simp[h.1],fun j=>?_⟩
 rw[List.getD,List.getElem?_set]
 split
 ·split
  ·exact hv
  ·decide
 ·have:=h.2 j
  rw[List.getD]at this
  exact this
theorem Cha.quarter_lt(a b c d:Nat):(Cha.quarter a b c d).1<4294967296∧(Cha.quarter a b c d).2.1<4294967296∧(Cha.quarter a b c d).2.2.1<4294967296∧(Cha.quarter a b c d).2.2.2<4294967296:=
 ⟨Cha.add_lt _ _,Cha.rotl_lt _ _,Cha.add_lt _ _,Cha.rotl_lt _ _⟩
theorem Cha.step_ok{x:List Nat}(h:Cha.Ok x)(r:Nat):Cha.Ok (Cha.step x r):=by
 obtain⟨h1,h2,h3,h4⟩:=Cha.quarter_lt (x.getD (Cha.at r 0) 0) (x.getD (Cha.at r 1) 0) (x.getD (Cha.at r 2) 0) (x.getD (Cha.at r 3) 0)
 exact(((h.set _ _ h1).set _ _ h2).set _ _ h3).set _ _ h4
theorem Cha.inner_ok{x:List Nat}(h:Cha.Ok x):∀r,Cha.Ok (Cha.inner x r)
 |0=>h
 |r+1=>Cha.step_ok (Cha.inner_ok h r) r
theorem Cha.dbl_ok{x:List Nat}(h:Cha.Ok x):∀r,Cha.Ok (Cha.dbl x r)
 |0=>h
 |r+1=>Cha.inner_ok (Cha.dbl_ok h r) 8
theorem Cha.init_ok(key nonce:List UInt8)(c:Nat)(hc:c<4294967296):Cha.Ok (Cha.init key nonce c):=by
 refine⟨by simp[Cha.init,Cha.words],fun i=>?_⟩
 have:∀v∈Cha.init key nonce c,v<4294967296:=by
  intro v hv
  simp only[Cha.init,Cha.words,List.mem_append,qz]at hv
  rcases hv with((hv|⟨j,_,rfl⟩)|hv)|⟨j,_,rfl⟩
  ·simp at hv;omega
  ·exact Cha.word_lt _ _
  ·simp at hv;omega
  ·exact Cha.word_lt _ _
 rw[List.getD]
 cases h:(Cha.init key nonce c)[i]? with
 |none=>decide
 |some v=>exact this v (qC h)
theorem Kb{x:List Nat}{i:Nat}(hi:i<x.length):(x.map natV)[i]?=some (.int .i64 ((x.getD i 0:Nat):Int)):=by
 rw[qu,List.getD,qj hi];rfl
theorem natV_set(x:List Nat)(i v:Nat):(x.map natV).set i (.int .i64 (v:Int))=(x.set i v).map natV:=by
 rw[List.map_set];rfl
theorem new_int4(a b c d:Int):Jx qc 71 4 [(0,.int .i64 a),(1,.int .i64 b),(2,.int .i64 c),(3,.int .i64 d)]=some (.cells false 1 [.int .i64 a,.int .i64 b,.int .i64 c,.int .i64 d]):=by kernel_rfl
theorem le_length:∀(n w:Nat),(Cha.le w n).length=n
 |0,_=>rfl
 |n+1,w=>by simp[Cha.le,le_length n]
theorem le_get:∀(w n e:Nat),e<n→(Cha.le w n)[e]?=some (UInt8.ofNat (w/256^e%256))
 |w,0,e,h=>by omega
 |w,n+1,0,h=>by simp[Cha.le]
 |w,n+1,e+1,h=>by
  simp only[Cha.le,qf]
  rw[le_get (w/256) n e (by omega),Nat.pow_succ,Nat.mul_comm (256^e) 256,←Nat.div_div_eq_div_mul]
theorem outN_length(x s:List Nat):∀n,(Cha.outN x s n).length=4*n
 |0=>rfl
 |n+1=>by
  have:Cha.outN x s (n+1)=Cha.outN x s n++Cha.le (Cha.add (x.getD n 0) (s.getD n 0)) 4:=by simp[Cha.outN,qt]
  rw[this,qd,outN_length x s n,le_length];omega
theorem new_sl8(n0 n1 n2 n3 n4 n5 n6 n7:Nat):Jx qc 367 8 [(0,.slice (some ⟨n0,0,none⟩) 4 4),(1,.slice (some ⟨n1,0,none⟩) 4 4),(2,.slice (some ⟨n2,0,none⟩) 4 4),(3,.slice (some ⟨n3,0,none⟩) 4 4),(4,.slice (some ⟨n4,0,none⟩) 4 4),(5,.slice (some ⟨n5,0,none⟩) 4 4),(6,.slice (some ⟨n6,0,none⟩) 4 4),(7,.slice (some ⟨n7,0,none⟩) 4 4)]=
 some (.cells false 1 [.slice (some ⟨n0,0,none⟩) 4 4,.slice (some ⟨n1,0,none⟩) 4 4,.slice (some ⟨n2,0,none⟩) 4 4,.slice (some ⟨n3,0,none⟩) 4 4,.slice (some ⟨n4,0,none⟩) 4 4,.slice (some ⟨n5,0,none⟩) 4 4,.slice (some ⟨n6,0,none⟩) 4 4,.slice (some ⟨n7,0,none⟩) 4 4]):=by kernel_rfl
theorem inf_sl:qc.info? 71=some Tryz.t71:=by kernel_rfl
theorem sl_size:Tryz.t71.size=1:=rfl
theorem block_spec(m:Mem)(key nonce:ByteArray)(c:Nat)(hk:key.size=32)(hn:nonce.size=12)(hc:c<4294967296):
 Abs.Spec qc 296 [.string key,.string nonce,.int .i64 (c:Int)] m fun v m'=>Sl m' v (J5 (Cha.block key.data.toList nonce.data.toList c))∧Grows m m'∧(∀g l c,v=.slice (some ⟨g,0,none⟩) l c→m.size≤g):=by
 obtain⟨S,hS⟩:∃S,S=Cha.init key.data.toList nonce.data.toList c:=⟨_,rfl⟩
 have hSok:Cha.Ok S:=by rw[hS];exact Cha.init_ok _ _ _ hc
 refine Abs.Spec.walk Tryz.func296 (by rfl) _ Tryz.results296 _ Tryz.ntmps296 (by simp) ?_
 refine J4 (J2 ?_)
 simp only[zS,reduceIte,yQ,yW,yX,yZ,yJ,yK,yV]
 refine J4 (J2 ?_)
 simp only[zS,reduceIte,yQ,yW,yX,yZ,yJ,yK,yV,new_int4]
 have h0:Sl (m.push (.cells false 1 [.int .i64 1634760805,.int .i64 857760878,.int .i64 2036477234,.int .i64 1797285236])) (.slice (some ⟨m.size,0,none⟩) 4 4) [.int .i64 1634760805,.int .i64 857760878,.int .i64 2036477234,.int .i64 1797285236]:=Sl.block rfl (Mem.get_push_new _ _)
 have g0:Grows m (m.push (.cells false 1 [.int .i64 1634760805,.int .i64 857760878,.int .i64 2036477234,.int .i64 1797285236])):=(Grows.refl m).push _
 have n0:∀g l c,Value.slice (some ⟨m.size,0,none⟩) 4 4=.slice (some ⟨g,0,none⟩) l c→m.size≤g:=fun g l c e=>by cases e;exact qx _
 generalize m.push (.cells false 1 [.int .i64 1634760805,.int .i64 857760878,.int .i64 2036477234,.int .i64 1797285236])=M0 at*
 obtain⟨a0,ha0⟩:∃v,v=Value.slice (some ⟨m.size,0,none⟩) 4 4:=⟨_,rfl⟩
 have hs0:∃g,a0=.slice (some ⟨g,0,none⟩) 4 4:=⟨_,ha0⟩
 rw[←ha0]at h0 n0 ⊢
 clear ha0
 refine J4 (J2 ?_)
 simp only[zS,reduceIte,yQ,yW,yX,yZ,yJ,yK,yV]
 refine⟨by kernel_rfl,_,words_spec M0 key (by omega),?_⟩
 rintro w1 M1 ⟨hw1,hg1,hn1⟩
 rw[hk]at hw1
 obtain⟨gw1,hw1v,hw1g⟩:=hw1.at (by simp[Cha.words])
 have hl1:((Cha.words key.data.toList (32/4)).map natV).length=8:=by simp[Cha.words]
 have h0':Sl M1 a0 [.int .i64 1634760805,.int .i64 857760878,.int .i64 2036477234,.int .i64 1797285236]:=by
  rcases h0 with⟨_,h⟩|⟨g,h,h'⟩
  ·cases h
  ·exact .inr ⟨g,h,hg1.2 _ _ h'⟩
 obtain⟨a1,M2,happ,hs1,hgr1,hnew1,_⟩:=Sl.appL Tryz.underlying71 Zo int_zero XV rfl h0' hw1g (by omega) (g0.trans hg1) n0 (by rw[int_bytes,hl1];decide) (by rw[hl1];decide)
 rw[hw1v]
 simp only[happ,zS,reduceIte,yQ,yW,yX,yZ,yJ,yK,yV]
 have hap2:=hs1.app_int hgr1 hnew1 (.int .i64 (c:Int)) (by simp[Cha.words])
 obtain⟨a2,M3,happ2,hs2,hgr2,hnew2⟩:=hap2
 refine J4 (J2 ?_)
 simp only[zS,reduceIte,yQ,yW,yX,yZ,yJ,yK,yV,new_int,happ2]
 refine J4 (J2 ?_)
 simp only[zS,reduceIte,yQ,yW,yX,yZ,yJ,yK,yV]
 refine⟨by kernel_rfl,_,words_spec M3 nonce (by omega),?_⟩
 rintro w2 M4 ⟨hw2,hg4,hn2⟩
 rw[hn]at hw2
 obtain⟨gw2,hw2v,hw2g⟩:=hw2.at (by simp[Cha.words])
 have hl2:((Cha.words nonce.data.toList (12/4)).map natV).length=3:=by simp[Cha.words]
 have hs2':Sl M4 a2 ([.int .i64 1634760805,.int .i64 857760878,.int .i64 2036477234,.int .i64 1797285236]++(Cha.words key.data.toList (32/4)).map natV++[.int .i64 (c:Int)]):=by
  rcases hs2 with⟨_,h⟩|⟨g,h,h'⟩
  ·simp at h
  ·exact .inr ⟨g,h,hg4.2 _ _ h'⟩
 obtain⟨a3,M5,happ3,hs3,hgr3,hnew3,_⟩:=Sl.appL Tryz.underlying71 Zo int_zero XV rfl hs2' hw2g (by omega) (hgr2.trans hg4) hnew2 (by rw[int_bytes,hl2];simp[Cha.words]) (by rw[hl2];simp[Cha.words])
 rw[hw2v]
 simp only[happ3,zS,reduceIte,yQ,yW,yX,yZ,yJ,yK,yV]
 have hSl:[.int .i64 1634760805,.int .i64 857760878,.int .i64 2036477234,.int .i64 1797285236]++(Cha.words key.data.toList (32/4)).map natV++[.int .i64 (c:Int)]++(Cha.words nonce.data.toList (12/4)).map natV=S.map natV:=by
  rw[hS];simp[Cha.init,natV]
 rw[hSl]at hs3
 have hSlen:(S.map natV).length=16:=by rw[qk,hSok.1]
 obtain⟨gs,rfl,hgs⟩:=hs3.at (by omega)
 rw[hSlen]
 have hgs0:=hnew3 gs _ _ rfl
 clear hs0 h0 g0 n0 hw1 hw1v hw1g h0' hs1 hgr1 hnew1 happ happ2 hs2 hgr2 hnew2 hw2 hw2v hw2g hs2' happ3 hnew3 hs3 hg1 hn1 hg4 hn2
 refine J4 (J2 ?_)
 simp only[zS,reduceIte,yQ,yW,yX,yZ,yJ,yK,yV]
 obtain⟨a4,M6,happ4,hs4,hgr4,hnew4,hkeep4⟩:=Sl.appL Tryz.underlying71 Zo int_zero XV rfl (s:=.slice none 0 0) (xs:=[]) (.inl ⟨rfl,rfl⟩) hgs (by omega) (Grows.refl M5) (fun g l c e=>by cases e) (by rw[int_bytes,hSlen];decide) (by rw[hSlen];decide)
 rw[hSlen]at happ4
 rw[List.nil_append]at hs4
 obtain⟨gx,rfl,hgx⟩:=hs4.at (by omega)
 have hgs4:=hkeep4 gs _ (fun l c e=>by cases e) hgs
 have hgx0:=hnew4 gx _ _ rfl
 rw[hSlen]at happ4
 refine J4 (J2 ?_)
 simp only[zS,reduceIte,yQ,yW,yX,yZ,yJ,yK,yV,happ4]
 have hne:gs≠gx:=by have:=Mem.get_lt hgs;omega
 have hgx1:m.size≤gx:=by have:=hgr3.1;omega
 have hg6:=hgr3.trans hgr4
 clear hkeep4 hnew4 hs4 happ4 hgr3 hgr4 hgs
 refine J4 (J2 ?_)
 simp only[zS,reduceIte,yQ,yW,yX,yZ,yJ,yK,yV,new_int4,new_sl8,Mem.size_push]
 obtain⟨M7,hM7⟩:∃M7,M7=M6.app [some (.cells false 1 [.int .i64 0,.int .i64 4,.int .i64 8,.int .i64 12]),some (.cells false 1 [.int .i64 1,.int .i64 5,.int .i64 9,.int .i64 13]),some (.cells false 1 [.int .i64 2,.int .i64 6,.int .i64 10,.int .i64 14]),some (.cells false 1 [.int .i64 3,.int .i64 7,.int .i64 11,.int .i64 15]),some (.cells false 1 [.int .i64 0,.int .i64 5,.int .i64 10,.int .i64 15]),some (.cells false 1 [.int .i64 1,.int .i64 6,.int .i64 11,.int .i64 12]),some (.cells false 1 [.int .i64 2,.int .i64 7,.int .i64 8,.int .i64 13]),some (.cells false 1 [.int .i64 3,.int .i64 4,.int .i64 9,.int .i64 14]),
  some (.cells false 1 [.slice (some ⟨M6.size,0,none⟩) 4 4,.slice (some ⟨M6.size+1,0,none⟩) 4 4,.slice (some ⟨M6.size+1+1,0,none⟩) 4 4,.slice (some ⟨M6.size+1+1+1,0,none⟩) 4 4,.slice (some ⟨M6.size+1+1+1+1,0,none⟩) 4 4,.slice (some ⟨M6.size+1+1+1+1+1,0,none⟩) 4 4,.slice (some ⟨M6.size+1+1+1+1+1+1,0,none⟩) 4 4,.slice (some ⟨M6.size+1+1+1+1+1+1+1,0,none⟩) 4 4])]:=⟨_,rfl⟩
 have hfold:∀(M:Mem)(b0 b1 b2 b3 b4 b5 b6 b7 b8:Blk),((((((((M.push b0).push b1).push b2).push b3).push b4).push b5).push b6).push b7).push b8=M.app [some b0,some b1,some b2,some b3,some b4,some b5,some b6,some b7,some b8]:=fun M b0 b1 b2 b3 b4 b5 b6 b7 b8=>by
  simp[Mem.push,Mem.app]
 rw[hfold,←hM7]
 obtain⟨B,hB⟩:∃B,B=M6.size:=⟨_,rfl⟩
 have hrow:∀r,r<8→M7.get (B+r)=some (.cells false 1 ((Cha.rows.getD r []).map natV)):=by
  intro r hr
  rw[hM7]
  refine app_get_new (by omega) ?_
  rw[hB,show M6.size+r-M6.size=r by omega]
  have:r=0∨r=1∨r=2∨r=3∨r=4∨r=5∨r=6∨r=7:=by omega
  rcases this with rfl|rfl|rfl|rfl|rfl|rfl|rfl|rfl<;>rfl
 obtain⟨R,hR⟩:∃R:List Value,R=[.slice (some ⟨M6.size,0,none⟩) 4 4,.slice (some ⟨M6.size+1,0,none⟩) 4 4,.slice (some ⟨M6.size+1+1,0,none⟩) 4 4,.slice (some ⟨M6.size+1+1+1,0,none⟩) 4 4,.slice (some ⟨M6.size+1+1+1+1,0,none⟩) 4 4,.slice (some ⟨M6.size+1+1+1+1+1,0,none⟩) 4 4,.slice (some ⟨M6.size+1+1+1+1+1+1,0,none⟩) 4 4,.slice (some ⟨M6.size+1+1+1+1+1+1+1,0,none⟩) 4 4]:=⟨_,rfl⟩
 have hRr:∀r,r<8→R[r]?=some (.slice (some ⟨B+r,0,none⟩) 4 4):=by
  intro r hr
  rw[hR,hB]
  have:r=0∨r=1∨r=2∨r=3∨r=4∨r=5∨r=6∨r=7:=by omega
  rcases this with rfl|rfl|rfl|rfl|rfl|rfl|rfl|rfl<;>rfl
 obtain⟨g9,hg9⟩:∃g9,g9=M6.size+1+1+1+1+1+1+1+1:=⟨_,rfl⟩
 have h9:M7.get g9=some (.cells false 1 R):=by
  rw[hM7]
  refine app_get_new (by omega) ?_
  rw[hg9,show M6.size+1+1+1+1+1+1+1+1-M6.size=8 by omega,hR]
  rfl
 have hs7:M7.get gs=some (.cells false 1 (S.map natV)):=by rw[hM7,app_get_old (Mem.get_lt hgs4)];exact hgs4
 have hx7:M7.get gx=some (.cells false 1 (S.map natV)):=by rw[hM7,app_get_old (Mem.get_lt hgx)];exact hgx
 have hg7:Grows m M7:=hg6.trans (by
  rw[hM7]
  exact⟨by simp[Mem.app,Mem.size],fun b x hb=>by rw[app_get_old (Mem.get_lt hb)];exact hb⟩)
 have hgxB:gx<B:=by rw[hB];exact Mem.get_lt hgx
 rw[←hg9]
 have hg9B:g9=B+8:=by omega
 clear hM7 hfold hgs4 hgx hg6 hg9 hB hR
 refine J4 (J4 (J2 ?_))
 simp only[zS,reduceIte,yQ,yW,yX,yZ,yJ,yK,yV]
 refine Js (Qu [7,8,9,10] (fun k f M=>∃n:Nat,n+k=10∧f=[(7,.slice (some ⟨gs,0,none⟩) 16 16),(8,.slice (some ⟨gx,0,none⟩) 16 16),(9,.slice (some ⟨g9,0,none⟩) 8 8),(10,.int .i64 (n:Int))]∧
  M.get gs=some (.cells false 1 (S.map natV))∧M.get gx=some (.cells false 1 ((Cha.dbl S n).map natV))∧M.get g9=some (.cells false 1 R)∧(∀r,r<8→M.get (B+r)=some (.cells false 1 ((Cha.rows.getD r []).map natV)))∧Grows m M) 10 ?_ ?_)
 ·simp only[zS,reduceIte,yQ,yW,yX,yZ,yJ,yK,yV]
  exact⟨0,rfl,rfl,hs7,hx7,h9,hrow,hg7⟩
 ·clear hs7 hx7 h9 hrow hg7
  rintro k f M ⟨n,hn10,rfl,hs7,hx7,h9,hrow,hg7⟩
  have hok:=Cha.dbl_ok hSok n
  refine J4 (J4 (J2 ?_))
  simp only[zS,reduceIte,yQ,yW,yX,yZ,yJ,yK,yV]
  refine JZ (decide ((n:Int)<10)) (by rfl) (fun hc=>Q2 ?_) (fun hc=>Qz ?_)
  ·simp only[zS,reduceIte,yQ,yW,yX,yZ,yJ,yK,yV]
   have hnl:n<10:=by have:=of_decide_eq_true hc;omega
   have xn:IntKind.i64.wrap ((n:Int)+1)=((n+1:Nat):Int):=by rw[wr (by omega) (by omega)];omega
   refine J4 (Js (J4 (J2 ?_)))
   simp only[zS,reduceIte,yQ,yW,yX,yZ,yJ,yK,yV]
   refine Js (Qu [7,8,9,10,11] (fun k f M=>∃r:Nat,r+k=8∧f=[(7,.slice (some ⟨gs,0,none⟩) 16 16),(8,.slice (some ⟨gx,0,none⟩) 16 16),(9,.slice (some ⟨g9,0,none⟩) 8 8),(10,.int .i64 (n:Int)),(11,.int .i64 (r:Int))]∧
    M.get gs=some (.cells false 1 (S.map natV))∧M.get gx=some (.cells false 1 ((Cha.inner (Cha.dbl S n) r).map natV))∧M.get g9=some (.cells false 1 R)∧(∀r,r<8→M.get (B+r)=some (.cells false 1 ((Cha.rows.getD r []).map natV)))∧Grows m M) 8 ?_ ?_)
   ·simp only[zS,reduceIte,yQ,yW,yX,yZ,yJ,yK,yV]
    exact⟨0,rfl,rfl,hs7,hx7,h9,hrow,hg7⟩
   ·clear hs7 hx7 h9 hrow hg7
    rintro k2 f M ⟨r,hr8,rfl,hs7,hx7,h9,hrow,hg7⟩
    obtain⟨x,hx⟩:∃x,x=Cha.inner (Cha.dbl S n) r:=⟨_,rfl⟩
    have hxok:Cha.Ok x:=by rw[hx];exact Cha.inner_ok hok r
    rw[←hx]at hx7
    refine J4 (J4 (J2 ?_))
    simp only[zS,reduceIte,yQ,yW,yX,yZ,yJ,yK,yV]
    refine JZ (decide ((r:Int)<8)) (by rfl) (fun hc=>Q2 ?_) (fun hc=>Qz ?_)
    ·simp only[zS,reduceIte,yQ,yW,yX,yZ,yJ,yK,yV]
     have hrl:r<8:=by have:=of_decide_eq_true hc;omega
     have xr:IntKind.i64.wrap ((r:Int)+1)=((r+1:Nat):Int):=by rw[wr (by omega) (by omega)];omega
     refine J4 (Js (J4 (J2 ?_)))
     simp only[zS,reduceIte,yQ,yW,yX,yZ,yJ,yK,yV,zT,inf_sl,sl_size,row_slice,Tryz.underlying367,h9,qe,hRr r hrl]
     refine⟨by omega,?_⟩
     have hrr:=hrow r hrl
     have hrc:∀k,k<4→((Cha.rows.getD r []).map natV)[k]?=some (.int .i64 ((Cha.at r k:Nat):Int)):=fun k hk=>Kb (by
      have:∀r:Fin 8,(Cha.rows.getD r.val []).length=4:=by decide
      rw[this ⟨r,hrl⟩];exact hk)
     have hrl0:=Cha.at_lt r 0 hrl (by decide)
     have hrl1:=Cha.at_lt r 1 hrl (by decide)
     have hrl2:=Cha.at_lt r 2 hrl (by decide)
     have hrl3:=Cha.at_lt r 3 hrl (by decide)
     obtain⟨i0,hi0⟩:∃i,i=Cha.at r 0:=⟨_,rfl⟩
     obtain⟨i1,hi1⟩:∃i,i=Cha.at r 1:=⟨_,rfl⟩
     obtain⟨i2,hi2⟩:∃i,i=Cha.at r 2:=⟨_,rfl⟩
     obtain⟨i3,hi3⟩:∃i,i=Cha.at r 3:=⟨_,rfl⟩
     have c0:=hrc 0 (by decide)
     have c1:=hrc 1 (by decide)
     have c2:=hrc 2 (by decide)
     have c3:=hrc 3 (by decide)
     rw[←hi0]at c0 hrl0
     rw[←hi1]at c1 hrl1
     rw[←hi2]at c2 hrl2
     rw[←hi3]at c3 hrl3
     have x0:=Kb (x:=x) (i:=i0) (by rw[hxok.1];exact hrl0)
     have x1:=Kb (x:=x) (i:=i1) (by rw[hxok.1];exact hrl1)
     have x2:=Kb (x:=x) (i:=i2) (by rw[hxok.1];exact hrl2)
     have x3:=Kb (x:=x) (i:=i3) (by rw[hxok.1];exact hrl3)
     refine J4 (Z0 hmix 33 (by kernel_rfl) (by kernel_rfl) ?_)
     simp only[zS,reduceIte,yQ,yW,yX,yZ,yJ,yK,yV,zT,hrr,hx7,qe,qA,qB,c0,c1,c2,c3,x0,x1,x2,x3]
     refine⟨by omega,by omega,by omega,by omega,by omega,by omega,by omega,by omega,by kernel_rfl,_,quarter_at _ _ _ _ _ (hxok.2 _) (hxok.2 _) (hxok.2 _) (hxok.2 _),?_⟩
     simp only[zS,reduceIte,yQ,yW,yX,yZ,yJ,yK,yV,qf,qh]
     have hstep:Cha.step x r=(((x.set i0 (Cha.quarter (x.getD i0 0) (x.getD i1 0) (x.getD i2 0) (x.getD i3 0)).1).set i1 (Cha.quarter (x.getD i0 0) (x.getD i1 0) (x.getD i2 0) (x.getD i3 0)).2.1).set i2 (Cha.quarter (x.getD i0 0) (x.getD i1 0) (x.getD i2 0) (x.getD i3 0)).2.2.1).set i3 (Cha.quarter (x.getD i0 0) (x.getD i1 0) (x.getD i2 0) (x.getD i3 0)).2.2.2:=by
      rw[hi0,hi1,hi2,hi3];rfl
     obtain⟨y,hy⟩:∃y,y=Cha.quarter (x.getD i0 0) (x.getD i1 0) (x.getD i2 0) (x.getD i3 0):=⟨_,rfl⟩
     rw[←hy]at hstep ⊢
     have hother:∀(M:Mem)(o:Option Blk)(b:Nat),b≠gx→(M.set gx o).get b=M.get b:=fun M o b hb=>Mem.get_set_ne (Ne.symm hb) o
     clear hi0 hi1 hi2 hi3 x0 x1 x2 x3
     refine SW_keep [7,8,9,10,11,12,13,14,15,16] ?_
     simp only[zS,reduceIte,yQ,yW,yX,yZ,yJ,yK,yV]
     have hst0:=UC hx7 (i:=i0) (by simp[hxok.1];omega) ((y.1:Nat):Int)
     rw[natV_set]at hst0
     refine J4 (J2 ?_)
     simp only[zS,reduceIte,yQ,yW,yX,yZ,yJ,yK,yV,zT,hrr,hx7,qe,qA,qB,c0,hst0]
     refine⟨by omega,by simp;omega,?_⟩
     obtain⟨M0,hM0⟩:∃M',M'=Mem.set M gx (some (.cells false 1 ((x.set i0 y.1).map natV))):=⟨_,rfl⟩
     rw[←hM0]
     replace hrr:M0.get (B+r)=some (.cells false 1 ((Cha.rows.getD r []).map natV)):=by rw[hM0,hother _ _ _ (by omega)];exact hrr
     have hx7':M0.get gx=some (.cells false 1 ((x.set i0 y.1).map natV)):=by rw[hM0];exact Mem.get_set_same hx7 _
     replace hs7:M0.get gs=some (.cells false 1 (S.map natV)):=by rw[hM0,hother _ _ _ hne];exact hs7
     replace h9:M0.get g9=some (.cells false 1 R):=by rw[hM0,hother _ _ _ (by omega)];exact h9
     replace hrow:∀r,r<8→M0.get (B+r)=some (.cells false 1 ((Cha.rows.getD r []).map natV)):=fun r hr=>by rw[hM0,hother _ _ _ (by omega)];exact hrow r hr
     replace hg7:Grows m M0:=by rw[hM0];exact hg7.set hgx1 _
     clear hM0 hst0 hx7
     have hx7:=hx7'
     clear hx7'
     have hst1:=UC hx7 (i:=i1) (by simp[hxok.1];omega) ((y.2.1:Nat):Int)
     rw[natV_set]at hst1
     refine J4 (J2 ?_)
     simp only[zS,reduceIte,yQ,yW,yX,yZ,yJ,yK,yV,zT,hrr,hx7,qe,qA,qB,c1,hst1]
     refine⟨by omega,by simp;omega,?_⟩
     obtain⟨M1,hM1⟩:∃M',M'=Mem.set M0 gx (some (.cells false 1 (((x.set i0 y.1).set i1 y.2.1).map natV))):=⟨_,rfl⟩
     rw[←hM1]
     replace hrr:M1.get (B+r)=some (.cells false 1 ((Cha.rows.getD r []).map natV)):=by rw[hM1,hother _ _ _ (by omega)];exact hrr
     have hx7':M1.get gx=some (.cells false 1 (((x.set i0 y.1).set i1 y.2.1).map natV)):=by rw[hM1];exact Mem.get_set_same hx7 _
     replace hs7:M1.get gs=some (.cells false 1 (S.map natV)):=by rw[hM1,hother _ _ _ hne];exact hs7
     replace h9:M1.get g9=some (.cells false 1 R):=by rw[hM1,hother _ _ _ (by omega)];exact h9
     replace hrow:∀r,r<8→M1.get (B+r)=some (.cells false 1 ((Cha.rows.getD r []).map natV)):=fun r hr=>by rw[hM1,hother _ _ _ (by omega)];exact hrow r hr
     replace hg7:Grows m M1:=by rw[hM1];exact hg7.set hgx1 _
     clear hM1 hst1 hx7
     have hx7:=hx7'
     clear hx7'
     have hst2:=UC hx7 (i:=i2) (by simp[hxok.1];omega) ((y.2.2.1:Nat):Int)
     rw[natV_set]at hst2
     refine J4 (J2 ?_)
     simp only[zS,reduceIte,yQ,yW,yX,yZ,yJ,yK,yV,zT,hrr,hx7,qe,qA,qB,c2,hst2]
     refine⟨by omega,by simp;omega,?_⟩
     obtain⟨M2,hM2⟩:∃M',M'=Mem.set M1 gx (some (.cells false 1 ((((x.set i0 y.1).set i1 y.2.1).set i2 y.2.2.1).map natV))):=⟨_,rfl⟩
     rw[←hM2]
     replace hrr:M2.get (B+r)=some (.cells false 1 ((Cha.rows.getD r []).map natV)):=by rw[hM2,hother _ _ _ (by omega)];exact hrr
     have hx7':M2.get gx=some (.cells false 1 ((((x.set i0 y.1).set i1 y.2.1).set i2 y.2.2.1).map natV)):=by rw[hM2];exact Mem.get_set_same hx7 _
     replace hs7:M2.get gs=some (.cells false 1 (S.map natV)):=by rw[hM2,hother _ _ _ hne];exact hs7
     replace h9:M2.get g9=some (.cells false 1 R):=by rw[hM2,hother _ _ _ (by omega)];exact h9
     replace hrow:∀r,r<8→M2.get (B+r)=some (.cells false 1 ((Cha.rows.getD r []).map natV)):=fun r hr=>by rw[hM2,hother _ _ _ (by omega)];exact hrow r hr
     replace hg7:Grows m M2:=by rw[hM2];exact hg7.set hgx1 _
     clear hM2 hst2 hx7
     have hx7:=hx7'
     clear hx7'
     have hst3:=UC hx7 (i:=i3) (by simp[hxok.1];omega) ((y.2.2.2:Nat):Int)
     rw[natV_set]at hst3
     refine(J2 ?_)
     simp only[zS,reduceIte,yQ,yW,yX,yZ,yJ,yK,yV,zT,hrr,hx7,qe,qA,qB,c3,hst3]
     refine⟨by omega,by simp;omega,?_⟩
     obtain⟨M3,hM3⟩:∃M',M'=Mem.set M2 gx (some (.cells false 1 (((((x.set i0 y.1).set i1 y.2.1).set i2 y.2.2.1).set i3 y.2.2.2).map natV))):=⟨_,rfl⟩
     rw[←hM3]
     replace hrr:M3.get (B+r)=some (.cells false 1 ((Cha.rows.getD r []).map natV)):=by rw[hM3,hother _ _ _ (by omega)];exact hrr
     have hx7':M3.get gx=some (.cells false 1 (((((x.set i0 y.1).set i1 y.2.1).set i2 y.2.2.1).set i3 y.2.2.2).map natV)):=by rw[hM3];exact Mem.get_set_same hx7 _
     replace hs7:M3.get gs=some (.cells false 1 (S.map natV)):=by rw[hM3,hother _ _ _ hne];exact hs7
     replace h9:M3.get g9=some (.cells false 1 R):=by rw[hM3,hother _ _ _ (by omega)];exact h9
     replace hrow:∀r,r<8→M3.get (B+r)=some (.cells false 1 ((Cha.rows.getD r []).map natV)):=fun r hr=>by rw[hM3,hother _ _ _ (by omega)];exact hrow r hr
     replace hg7:Grows m M3:=by rw[hM3];exact hg7.set hgx1 _
     clear hM3 hst3 hx7
     have hx7:=hx7'
     clear hx7'
     refine J2 ?_
     simp only[zS,reduceIte,yQ,yW,yX,yZ,yJ,yK,yV,xr]
     refine⟨k2-1,⟨r+1,by omega,rfl,hs7,?_,h9,hrow,hg7⟩,by omega⟩
     rw[show Cha.inner (Cha.dbl S n) (r+1)=Cha.step x r by rw[hx];rfl,hstep]
     exact hx7
    ·simp only[zS,reduceIte,yQ,yW,yX,yZ,yJ,yK,yV]
     have hr8':r=8:=by have:=of_decide_eq_false hc;omega
     subst hr8'
     refine J2 ?_
     simp only[zS,reduceIte,yQ,yW,yX,yZ,yJ,yK,yV,xn]
     refine⟨k-1,⟨n+1,by omega,rfl,hs7,?_,h9,hrow,hg7⟩,by omega⟩
     rw[show Cha.dbl S (n+1)=x by rw[hx];rfl]
     exact hx7
  ·simp only[zS,reduceIte,yQ,yW,yX,yZ,yJ,yK,yV]
   have hn10':n=10:=by have:=of_decide_eq_false hc;omega
   subst hn10'
   obtain⟨X,hX⟩:∃X,X=Cha.dbl S 10:=⟨_,rfl⟩
   rw[←hX]at hx7 hok
   clear h9 hrow hc
   refine J4 (J2 ?_)
   simp only[zS,reduceIte,yQ,yW,yX,yZ,yJ,yK,yV]
   refine J4 (J4 (J2 ?_))
   simp only[zS,reduceIte,yQ,yW,yX,yZ,yJ,yK,yV]
   refine Js (Qu [7,8,17,18] (fun k f M'=>∃(u:Nat)(o:Value),u+k=16∧f=[(7,.slice (some ⟨gs,0,none⟩) 16 16),(8,.slice (some ⟨gx,0,none⟩) 16 16),(17,o),(18,.int .i64 (u:Int))]∧Sl M' o (J5 (Cha.outN X S u))∧Grows M M'∧(∀g l c,o=.slice (some ⟨g,0,none⟩) l c→M.size≤g)) 16 ?_ ?_)
   ·simp only[zS,reduceIte,yQ,yW,yX,yZ,yJ,yK,yV]
    exact⟨0,_,rfl,rfl,.inl ⟨rfl,rfl⟩,Grows.refl M,fun g l c e=>by cases e⟩
   ·rintro k2 f M1 ⟨u,o,hu16,rfl,ho,hgM,hnM⟩
    refine J4 (J4 (J2 ?_))
    simp only[zS,reduceIte,yQ,yW,yX,yZ,yJ,yK,yV]
    refine JZ (decide ((u:Int)<16)) (by rfl) (fun hc=>Q2 ?_) (fun hc=>Qz ?_)
    ·simp only[zS,reduceIte,yQ,yW,yX,yZ,yJ,yK,yV]
     have hul:u<16:=by have:=of_decide_eq_true hc;omega
     have xu:IntKind.i64.wrap ((u:Int)+1)=((u+1:Nat):Int):=by rw[wr (by omega) (by omega)];omega
     have p1:=hgM.2 _ _ hs7
     have p2:=hgM.2 _ _ hx7
     have d1:=Kb (x:=S) (i:=u) (by rw[hSok.1];exact hul)
     have d2:=Kb (x:=X) (i:=u) (by rw[hok.1];exact hul)
     obtain⟨w,hw⟩:∃w,w=Cha.add (X.getD u 0) (S.getD u 0):=⟨_,rfl⟩
     have hwl:w<4294967296:=by rw[hw];exact Cha.add_lt _ _
     refine J4 (Js (J4 (Z0 hmix 10 (by kernel_rfl) (by kernel_rfl) ?_)))
     simp only[zS,reduceIte,yQ,yW,yX,yZ,yJ,yK,yV,zT,p1,p2,qe,d1,d2,a32 _ _ (hok.2 u) (hSok.2 u),←hw]
     refine⟨by omega,by omega,?_⟩
     refine J4 (J2 ?_)
     simp only[zS,reduceIte,yQ,yW,yX,yZ,yJ,yK,yV]
     refine Js (Qu [7,8,17,18,19,20] (fun k f M'=>∃(e:Nat)(o:Value),e+k=4∧f=[(7,.slice (some ⟨gs,0,none⟩) 16 16),(8,.slice (some ⟨gx,0,none⟩) 16 16),(17,o),(18,.int .i64 (u:Int)),(19,.int .i64 ((w/256^e:Nat):Int)),(20,.int .i64 (e:Int))]∧Sl M' o (J5 (Cha.outN X S u++(Cha.le w 4).take e))∧Grows M M'∧(∀g l c,o=.slice (some ⟨g,0,none⟩) l c→M.size≤g)) 4 ?_ ?_)
     ·simp only[zS,reduceIte,yQ,yW,yX,yZ,yJ,yK,yV]
      exact⟨0,_,rfl,by simp,by simpa using ho,hgM,hnM⟩
     ·clear ho hgM hnM p1 p2
      rintro k3 f M2 ⟨e,o,he4,rfl,ho,hgM,hnM⟩
      refine J4 (J4 (J2 ?_))
      simp only[zS,reduceIte,yQ,yW,yX,yZ,yJ,yK,yV]
      refine JZ (decide ((e:Int)<4)) (by rfl) (fun hc=>Q2 ?_) (fun hc=>Qz ?_)
      ·simp only[zS,reduceIte,yQ,yW,yX,yZ,yJ,yK,yV]
       have hel:e<4:=by have:=of_decide_eq_true hc;omega
       have xe:IntKind.i64.wrap ((e:Int)+1)=((e+1:Nat):Int):=by rw[wr (by omega) (by omega)];omega
       have hdv:w/256^e≤w:=Nat.div_le_self _ _
       have hby:Value.int .u8 (bits .and .i64 ((w/256^e:Nat):Int) 255%256)=Jy (UInt8.ofNat (w/256^e%256)):=by
        have e2:=Qw (w/256^e) 255 (by omega) (by omega)
        rw[show w/256^e&&&255=w/256^e%256 from Nat.and_two_pow_sub_one_eq_mod _ 8]at e2
        unfold Jy
        congr 1
        refine(congrArg (·%256) e2).trans ?_
        rw[UInt8.toNat_ofNat']
        omega
       have hsh:((w/256^e:Nat):Int).fdiv (2^min 8 IntKind.i64.bits)=((w/256^(e+1):Nat):Int):=by
        rw[Zy,Nat.pow_succ,←Nat.div_div_eq_div_mul]
        exact Int.fdiv_eq_ediv_of_nonneg _ (by decide)
       have hlen:(J5 (Cha.outN X S u++(Cha.le w 4).take e)).length≤100:=by
        have h1:(Cha.outN X S u).length=4*u:=outN_length X S u
        simp only[J5,qk,qd,h1,qv]
        omega
       obtain⟨s',m2,happ,hs',hgr',hnew'⟩:=ho.app_u8 hgM hnM (.int .u8 (bits .and .i64 ((w/256^e:Nat):Int) 255%256)) (by omega)
       have hcat:J5 (Cha.outN X S u++(Cha.le w 4).take e)++[Value.int .u8 (bits .and .i64 ((w/256^e:Nat):Int) 255%256)]=J5 (Cha.outN X S u++(Cha.le w 4).take (e+1)):=by
        rw[hby,List.take_add_one,le_get w 4 e hel]
        simp[J5]
       rw[hcat]at hs'
       refine J4 (Js (J4 (J2 ?_)))
       simp only[zS,reduceIte,yQ,yW,yX,yZ,yJ,yK,yV,zT,wrap_u8,happ]
       refine J2 ?_
       simp only[zS,reduceIte,yQ,yW,yX,yZ,yJ,yK,yV,hsh]
       refine J2 ?_
       simp only[zS,reduceIte,yQ,yW,yX,yZ,yJ,yK,yV,xe]
       exact⟨k3-1,⟨e+1,s',by omega,rfl,hs',hgr',hnew'⟩,by omega⟩
      ·simp only[zS,reduceIte,yQ,yW,yX,yZ,yJ,yK,yV]
       have he4':e=4:=by have:=of_decide_eq_false hc;omega
       subst he4'
       refine J2 ?_
       simp only[zS,reduceIte,yQ,yW,yX,yZ,yJ,yK,yV,xu]
       refine⟨k2-1,⟨u+1,o,by omega,rfl,?_,hgM,hnM⟩,by omega⟩
       have:Cha.outN X S (u+1)=Cha.outN X S u++(Cha.le w 4).take 4:=by
        rw[hw];simp[Cha.outN,qt,Cha.le]
       rw[this]
       exact ho
    ·simp only[zS,reduceIte,yQ,yW,yX,yZ,yJ,yK,yV]
     have hu16':u=16:=by have:=of_decide_eq_false hc;omega
     subst hu16'
     refine J4 (J2 ?_)
     simp only[zS,reduceIte,yQ,yW,yX,yZ,yJ,yK,yV]
     refine X4 ?_
     simp only[zS,reduceIte,yQ,yW,yX,yZ,yJ,yK,yV,sAnswer,sAnswer.sRes]
     refine⟨?_,hg7.trans hgM,fun g l c e=>Nat.le_trans hg7.1 (hnM g l c e)⟩
     rw[Cha.block,←hS,←hX]
     exact ho
theorem Cha.block_length(key nonce:List UInt8)(c:Nat):(Cha.block key nonce c).length=64:=by rw[Cha.block,outN_length]
def Cha.xorAt(key nonce:List UInt8)(c:Nat)(l:List UInt8)(i:Nat):UInt8:=(Cha.block key nonce (c+i/64)).getD (i%64) 0^^^l.getD i 0
def Cha.xorN(key nonce:List UInt8)(c:Nat)(l:List UInt8)(n:Nat):List UInt8:=(qq n).map (Cha.xorAt key nonce c l)
theorem aUn_not(b:Bool):aUn .not (.bool b)=some (.bool !b):=rfl
theorem cright_spec(m:Mem)(key nonce:ByteArray)(c:Nat)(hk:key.size=32)(hn:nonce.size=12)(hc:c≤4294967295):
 Abs.Spec qc 295 [.string key,.string nonce,.int .i64 (c:Int)] m fun v _=>v=.bool true:=by
 have e1:JA key=32:=by rw[ZN,hk]
 have e2:JA nonce=12:=by rw[ZN,hn]
 have e3:decide ((c:Int)≥0)=true:=by simp
 have e4:decide ((c:Int)≤4294967295)=true:=by simp;omega
 have e5:(((32:Nat):Int)==32)=true:=rfl
 have e6:(((12:Nat):Int)==12)=true:=rfl
 refine Abs.Spec.walk Tryz.func295 (by rfl) _ Tryz.results295 _ Tryz.ntmps295 (by simp) ?_
 refine J4 (J2 ?_)
 simp only[zS,reduceIte,yQ,yW,yX,yZ,yJ,yK,yV]
 refine J4 (J2 ?_)
 simp only[zS,reduceIte,yQ,yW,yX,yZ,yJ,yK,yV,zT,e1,e2,e3,e4,e5,e6,Region.wanted,beq_self_eq_true,qf,qh]
 refine X4 ?_
 simp only[zS,reduceIte,yQ,yW,yX,yZ,yJ,yK,yV,sAnswer,sAnswer.sRes]
theorem cright_at(M:Mem)(key nonce:ByteArray)(c:Nat)(hk:key.size=32)(hn:nonce.size=12)(hc:c≤4294967295):
 Abs.Spec qc 295 [.string key,.string nonce,.int .i64 (c:Int)] M fun v M'=>v=.bool true∧M'=M:=
 Abs.Spec.of_flat (by intro x hx;simp at hx;rcases hx with rfl|rfl|rfl<;>rfl) rfl fun w=>Calls.of_flat_val (by intro x hx;simp at hx;rcases hx with rfl|rfl|rfl<;>rfl) rfl (cright_spec ⟨[]⟩ key nonce c hk hn hc) w
theorem xor_spec(m:Mem)(key nonce s:ByteArray)(c:Nat)(hk:key.size=32)(hn:nonce.size=12)(hc:c≤1000)(hs:s.size≤1000000)(hs0:0<s.size):
 Abs.Spec qc 265 [.string key,.string nonce,.int .i64 (c:Int),.string s] m fun v _=>v=.tuple #[.string (str (Cha.xorN key.data.toList nonce.data.toList c s.data.toList s.size)),.int .i64 0]:=by
 obtain⟨xs,hxs⟩:∃xs,xs=Cha.xorN key.data.toList nonce.data.toList c s.data.toList:=⟨_,rfl⟩
 have hxl:∀n,(xs n).length=n:=fun n=>by rw[hxs];simp[Cha.xorN]
 have hbs:JA s=s.size:=ZN s
 obtain⟨nb,hnb⟩:∃nb,nb=(s.size+63)/64:=⟨_,rfl⟩
 rw[←hxs]
 have w1:IntKind.i64.wrap ((s.size:Int)+63)=((s.size+63:Nat):Int):=by rw[wr (by omega) (by omega)];omega
 have w2:IntKind.i64.wrap (((s.size+63:Nat):Int).tdiv 64)=(nb:Int):=by
  have:((s.size+63:Nat):Int).tdiv 64=((((s.size+63)/64:Nat)):Int):=rfl
  rw[this,←hnb,wr (by omega) (by omega)]
 have w3:IntKind.i64.wrap ((nb:Int)-1)=((nb-1:Nat):Int):=by rw[wr (by omega) (by omega)];omega
 have w4:IntKind.i64.wrap (4294967295-(c:Int))=((4294967295-c:Nat):Int):=by rw[wr (by omega) (by omega)];omega
 have q0:((64:Int)=0)=False:=by simp
 refine Abs.Spec.walk Tryz.func265 (by rfl) _ Tryz.results265 _ Tryz.ntmps265 (by simp) ?_
 refine J4 (J2 ?_)
 simp only[zS,reduceIte,yQ,yW,yX,yZ,yJ,yK,yV]
 refine J4 (J4 (J2 ?_))
 simp only[zS,reduceIte,yQ,yW,yX,yZ,yJ,yK,yV]
 refine⟨by kernel_rfl,_,cright_at _ key nonce c hk hn (by omega),?_⟩
 rintro _ M1 ⟨rfl,hM⟩
 simp only[zS,reduceIte,yQ,yW,yX,yZ,yJ,yK,yV,aUn_not,Bool.not_true]
 refine JZ false (by rfl) (fun h=>by cases h) (fun _=>Q2 ?_)
 simp only[zS,reduceIte,yQ,yW,yX,yZ,yJ,yK,yV]
 refine J4 (J2 ?_)
 simp only[zS,reduceIte,yQ,yW,yX,yZ,yJ,yK,yV,zT,hbs,w1,q0,w2]
 refine J4 (J4 (J2 ?_))
 simp only[zS,reduceIte,yQ,yW,yX,yZ,yJ,yK,yV,w3,w4]
 refine JZ (decide (((nb-1:Nat):Int)>((4294967295-c:Nat):Int))) (by rfl) (fun h=>by have:=of_decide_eq_true h;omega) (fun _=>Q2 ?_)
 simp only[zS,reduceIte,yQ,yW,yX,yZ,yJ,yK,yV]
 refine J4 (J2 ?_)
 simp only[zS,reduceIte,yQ,yW,yX,yZ,yJ,yK,yV]
 refine J4 (J4 (J2 ?_))
 simp only[zS,reduceIte,yQ,yW,yX,yZ,yJ,yK,yV]
 refine Js (Qu [0,1,2,3,10,11,12] (fun n f M=>∃(k:Nat)(o:Value),k+n=nb∧f=[(0,.string key),(1,.string nonce),(2,.int .i64 (c:Int)),(3,.string s),(10,.int .i64 (nb:Int)),(11,o),(12,.int .i64 (k:Int))]∧Sl M o (J5 (xs (min (64*k) s.size)))∧Grows m M∧(∀g l c,o=.slice (some ⟨g,0,none⟩) l c→m.size≤g)) nb ?_ ?_)
 ·simp only[zS,reduceIte,yQ,yW,yX,yZ,yJ,yK,yV]
  refine⟨0,_,by omega,rfl,.inl ⟨rfl,?_⟩,by rw[hM];exact Grows.refl m,fun g l c e=>by cases e⟩
  rw[hxs];simp[Cha.xorN,J5]
 ·clear hM
  rintro n f M ⟨k,o,hkn,rfl,ho,hgr,hnew⟩
  refine J4 (J4 (J2 ?_))
  simp only[zS,reduceIte,yQ,yW,yX,yZ,yJ,yK,yV]
  refine JZ (decide ((k:Int)<(nb:Int))) (by rfl) (fun h=>Q2 ?_) (fun h=>Qz ?_)
  ·simp only[zS,reduceIte,yQ,yW,yX,yZ,yJ,yK,yV]
   have hkl:k<nb:=by have:=of_decide_eq_true h;omega
   have hmin:min (64*k) s.size=64*k:=by omega
   rw[hmin]at ho
   have w5:IntKind.i64.wrap ((c:Int)+(k:Int))=((c+k:Nat):Int):=by rw[wr (by omega) (by omega)];omega
   have w6:IntKind.i64.wrap ((k:Int)+1)=((k+1:Nat):Int):=by rw[wr (by omega) (by omega)];omega
   have w7:IntKind.i64.wrap (64*(k:Int))=((64*k:Nat):Int):=by rw[wr (by omega) (by omega)];omega
   refine J4 (Js (J4 (J2 ?_)))
   simp only[zS,reduceIte,yQ,yW,yX,yZ,yJ,yK,yV,w5]
   refine⟨by kernel_rfl,_,block_spec M key nonce (c+k) hk hn (by omega),?_⟩
   rintro vb M1 ⟨hvb,hg1,hn1⟩
   obtain⟨blk,hblk⟩:∃blk,blk=Cha.block key.data.toList nonce.data.toList (c+k):=⟨_,rfl⟩
   rw[←hblk]at hvb
   have hbl:blk.length=64:=by rw[hblk,Cha.block_length]
   have hbvl:(J5 blk).length=64:=by simp[J5,hbl]
   obtain⟨gb,rfl,hgb⟩:=hvb.at (by omega)
   rw[hbvl]
   have ho1:Sl M1 o (J5 (xs (64*k))):=by
    rcases ho with h|⟨g,h1,h2⟩
    ·exact .inl h
    ·exact .inr ⟨g,h1,hg1.2 _ _ h2⟩
   have hne:∀g l c,o=.slice (some ⟨g,0,none⟩) l c→g≠gb:=by
    intro g l c e
    have h1:=hn1 gb _ _ (by rw[hbvl])
    rcases ho with⟨h2,_⟩|⟨g',h2,h3⟩
    ·rw[h2]at e;cases e
    ·rw[h2]at e;cases e
     have:=Mem.get_lt h3
     omega
   clear ho hvb hn1
   simp only[zS,reduceIte,yQ,yW,yX,yZ,yJ,yK,yV]
   refine J4 (J2 ?_)
   simp only[zS,reduceIte,yQ,yW,yX,yZ,yJ,yK,yV]
   refine Js (Qu [0,1,2,3,10,11,12,13,14] (fun n f M'=>∃(i:Nat)(o:Value),i+n=64∧64*k+i≤s.size∧f=[(0,.string key),(1,.string nonce),(2,.int .i64 (c:Int)),(3,.string s),(10,.int .i64 (nb:Int)),(11,o),(12,.int .i64 (k:Int)),(13,.slice (some ⟨gb,0,none⟩) 64 64),(14,.int .i64 (i:Int))]∧
    Sl M' o (J5 (xs (64*k+i)))∧M'.get gb=some (.cells false 1 (J5 blk))∧Grows m M'∧(∀g l c,o=.slice (some ⟨g,0,none⟩) l c→m.size≤g∧g≠gb)) 64 ?_ ?_)
   ·simp only[zS,reduceIte,yQ,yW,yX,yZ,yJ,yK,yV]
    exact⟨0,_,rfl,by omega,rfl,ho1,hgb,hgr.trans hg1,fun g l c e=>⟨hnew g l c e,hne g l c e⟩⟩
   ·clear ho1 hgb hgr hg1 hnew hne
    rintro n2 f M2 ⟨i,o,hin,hle,rfl,ho,hgb,hgr,hnew⟩
    by_cases hi:i<64
    ·have e1:decide ((i:Int)<64)=true:=by simp;omega
     have w8:IntKind.i64.wrap (((64*k:Nat):Int)+(i:Int))=((64*k+i:Nat):Int):=by rw[wr (by omega) (by omega)];omega
     refine J4 (J4 (J2 ?_))
     simp only[zS,reduceIte,yQ,yW,yX,yZ,yJ,yK,yV,zT,e1,Region.wanted,beq_self_eq_true,qf,qh,w7,w8,hbs]
     refine JZ (decide (((64*k+i:Nat):Int)<(s.size:Int))) (by rfl) (fun h=>Q2 ?_) (fun h=>Qz ?_)
     ·simp only[zS,reduceIte,yQ,yW,yX,yZ,yJ,yK,yV]
      have hlt:64*k+i<s.size:=by have:=of_decide_eq_true h;omega
      have w9:IntKind.i64.wrap ((i:Int)+1)=((i+1:Nat):Int):=by rw[wr (by omega) (by omega)];omega
      obtain⟨b,hb⟩:∃b,blk[i]?=some b:=⟨blk[i]'(by omega),qj (by omega)⟩
      have hbg:(J5 blk)[i]?=some (.int .u8 (b.toNat:Int)):=by rw[J5,qu,hb];rfl
      have hsi:=Abs.index_str s ((64*k+i:Nat):Int) (64*k+i) rfl hlt
      obtain⟨d,hd⟩:∃d,d=s.data.toList.getD (64*k+i) 0:=⟨_,rfl⟩
      rw[←hd]at hsi
      have hbl':=qi b
      have hdl':=qi d
      have v1:IntKind.i64.wrap (b.toNat:Int)=(b.toNat:Int):=wr (by omega) (by omega)
      have v2:IntKind.i64.wrap (d.toNat:Int)=(d.toNat:Int):=wr (by omega) (by omega)
      have hol:(J5 (xs (64*k+i))).length=64*k+i:=by simp[J5,hxl]
      have hgrb:Grows M2 M2:=Grows.refl M2
      obtain⟨s',m2,happ,hs',hgr',hnew'⟩:=ho.app_u8 hgr (fun g l c e=>(hnew g l c e).1) (.int .u8 (bits .xor .i64 (b.toNat:Int) (d.toNat:Int)%256)) (by omega)
      have hcat:J5 (xs (64*k+i))++[Value.int .u8 (bits .xor .i64 (b.toNat:Int) (d.toNat:Int)%256)]=J5 (xs (64*k+(i+1))):=by
       rw[xor_byte]
       have:xs (64*k+(i+1))=xs (64*k+i)++[b^^^d]:=by
        have hat:Cha.xorAt key.data.toList nonce.data.toList c s.data.toList (64*k+i)=b^^^d:=by
         unfold Cha.xorAt
         rw[show(64*k+i)/64=k by omega,show(64*k+i)%64=i by omega,←hblk,←hd,List.getD,hb];rfl
        rw[hxs,←hat,←Nat.add_assoc]
        simp[Cha.xorN,qt]
       rw[this]
       simp[J5]
      rw[hcat]at hs'
      have hkeep:m2.get gb=some (.cells false 1 (J5 blk))∧(∀g l c,s'=.slice (some ⟨g,0,none⟩) l c→g≠gb):=by
       rcases ho with⟨rfl,h0⟩|⟨g,rfl,hg⟩
       ·have:=app_nil qw Zn u8_zero Xu rfl M2 (.int .u8 (bits .xor .i64 (b.toNat:Int) (d.toNat:Int)%256)) (by rw[u8_bytes];decide)
        rw[this]at happ
        cases happ
        have hlt2:=Mem.get_lt hgb
        refine⟨?_,fun g l c e=>by cases e;omega⟩
        rw[Mem.get_push_old (by rw[Mem.size_push];omega),Mem.get_push_old hlt2];exact hgb
       ·have:=app_one qw Zn u8_zero Xu rfl M2 (.int .u8 (bits .xor .i64 (b.toNat:Int) (d.toNat:Int)%256)) hg rfl (by rw[u8_bytes,hol];omega) (by rw[hol];omega)
        rw[this]at happ
        cases happ
        have hlt2:=Mem.get_lt hgb
        have hgne:=(hnew g _ _ rfl).2
        refine⟨?_,fun g l c e=>by cases e;omega⟩
        rw[Mem.get_push_old (by rw[Mem.size_set,Mem.size_push];omega),Mem.get_set_ne hgne,Mem.get_push_old hlt2];exact hgb
      refine J4 (Js (Z0 hmix 16 (by kernel_rfl) (by kernel_rfl) ?_))
      simp only[zS,reduceIte,yQ,yW,yX,yZ,yJ,yK,yV,zT,hgb,qe,hbg,w7,w8,hsi,v1,v2,wrap_u8,happ]
      refine⟨by omega,?_⟩
      refine J2 ?_
      simp only[zS,reduceIte,yQ,yW,yX,yZ,yJ,yK,yV,w9]
      exact⟨n2-1,⟨i+1,s',by omega,by omega,rfl,hs',hkeep.1,hgr',fun g l c e=>⟨hnew' g l c e,hkeep.2 g l c e⟩⟩,by omega⟩
     ·simp only[zS,reduceIte,yQ,yW,yX,yZ,yJ,yK,yV]
      have hend:64*k+i=s.size:=by have:=of_decide_eq_false h;omega
      refine J2 ?_
      simp only[zS,reduceIte,yQ,yW,yX,yZ,yJ,yK,yV,w6]
      refine⟨n-1,⟨k+1,o,by omega,rfl,?_,hgr,fun g l c e=>(hnew g l c e).1⟩,by omega⟩
      rw[show min (64*(k+1)) s.size=64*k+i by omega]
      exact ho
    ·have e1:decide ((i:Int)<64)=false:=by simp;omega
     refine J4 (J4 (J2 ?_))
     have hft:((some false:Option Bool)==some true)=false:=rfl
     simp only[zS,reduceIte,yQ,yW,yX,yZ,yJ,yK,yV,zT,e1,hft,Region.wanted,qf,qh]
     refine JZ false (by rfl) (fun h=>by cases h) (fun h=>Qz ?_)
     simp only[zS,reduceIte,yQ,yW,yX,yZ,yJ,yK,yV]
     refine J2 ?_
     simp only[zS,reduceIte,yQ,yW,yX,yZ,yJ,yK,yV,w6]
     refine⟨n-1,⟨k+1,o,by omega,rfl,?_,hgr,fun g l c e=>(hnew g l c e).1⟩,by omega⟩
     rw[show min (64*(k+1)) s.size=64*k+i by omega]
     exact ho
  ·simp only[zS,reduceIte,yQ,yW,yX,yZ,yJ,yK,yV]
   have hkn':k=nb:=by have:=of_decide_eq_false h;omega
   subst hkn'
   rw[show min (64*k) s.size=s.size by omega]at ho
   obtain⟨go,rfl,hgo⟩:=ho.at (by simp[J5,hxl,hs0])
   refine J4 (J2 ?_)
   simp only[zS,reduceIte,yQ,yW,yX,yZ,yJ,yK,yV,zT,to_str (n:=(J5 (xs s.size)).length) hgo (by simp[J5])]
   refine X4 ?_
   simp only[zS,reduceIte,yQ,yW,yX,yZ,yJ,yK,yV,sAnswer,sAnswer.sRes]
def Qy(s:List UInt8)(i:Nat):List UInt8:=(qq 192).map fun j=>s.getD (192*i+j) 0
def UR(s:List UInt8):List (List UInt8):=(qq ((s.length+191)/192)).map (Qy s)
def nonceV(i:Nat):List UInt8:=[83,76,68,71]++Sha.fixed (i:Nat) 8
def sealV(enc mac:List UInt8)(i:Nat)(c:List UInt8):List UInt8:=
 Cha.xorN enc (nonceV i) 1 c 192++Sha.tag mac (Sha.fixed (i:Nat) 4++Cha.xorN enc (nonceV i) 1 c 192)
def V7(enc mac s:List UInt8):List (List UInt8):=(qq ((s.length+191)/192)).map fun i=>sealV enc mac i (Qy s i)
def headOf0(secret salt:List UInt8)(id:Int)(s:List UInt8)(raw:Int)(bl:List (List UInt8)):Header:=⟨id,str salt,(bl.length:Nat),(s.length:Nat),raw,str (rootV bl),⟨#[]⟩⟩
def Vh(secret salt:List UInt8)(id:Int)(s:List UInt8)(raw:Int):Arc:=
 ⟨{ headOf0 secret salt id s raw (V7 (Sha.encKey secret salt) (Sha.macKey secret salt) s)with
  tag:=str (Sha.tag (Sha.headKey secret) (headOf0 secret salt id s raw (V7 (Sha.encKey secret salt) (Sha.macKey secret salt) s)).fields.data.toList) },
  V7 (Sha.encKey secret salt) (Sha.macKey secret salt) s⟩
theorem chunkAt_len(s:List UInt8)(i:Nat):(Qy s i).length=192:=by simp[Qy]
theorem xorN_len(k n:List UInt8)(c:Nat)(s:List UInt8)(m:Nat):(Cha.xorN k n c s m).length=m:=by simp[Cha.xorN]
theorem sealV_len(enc mac:List UInt8)(i:Nat)(c:List UInt8):(sealV enc mac i c).length=224:=by
 unfold sealV
 rw[qd,xorN_len,Sha.tag_length]
theorem sealed_len(enc mac s:List UInt8):(V7 enc mac s).length=(s.length+191)/192:=by simp[V7]
theorem sealed_size(enc mac s:List UInt8):∀b∈V7 enc mac s,b.length=224:=by
 intro b hb
 unfold V7 at hb
 obtain⟨i,_,rfl⟩:=qz.1 hb
 exact sealV_len _ _ _ _
theorem rootL_len:∀(n:Nat)(l:List (List UInt8)),l.length≤n→(∀x∈l,x.length=32)→(X5 l).length=32:=by
 intro n
 induction n with
 |zero=>
  intro l hl _
  obtain rfl:l=[]:=List.eq_nil_of_length_eq_zero (by omega)
  unfold X5
  exact Sha.sum_length _
 |succ n ih=>
  intro l hl h
  match l,hl,h with
  | [],_,_=>unfold X5;exact Sha.sum_length _
  | [a],_,h=>unfold X5;exact h a (by simp)
  |a::b::r,_,_=>unfold X5;exact Sha.sum_length _
theorem leafV_len(b:List UInt8):(Ua b).length=32:=Sha.sum_length _
theorem rootV_len(l:List (List UInt8)):(rootV l).length=32:=rootL_len _ _ (qx _) fun x hx=>by
 obtain⟨b,_,rfl⟩:=qz.1 hx
 exact leafV_len b
theorem sameB_refl(l:List UInt8):sameB l l=true:=by simp[sameB]
theorem arcOf_ok(secret salt:List UInt8)(id:Int)(s:List UInt8)(raw:Int)(hs:salt.length=16)(hid:1≤id∧id≤4294967295)(h1:1≤s.length)(h2:s.length≤49152)(hr:1≤raw∧raw≤134217728):
 ArcOk (Sha.headKey secret) (Vh secret salt id s raw):=by
 have hlen:=sealed_len (Sha.encKey secret salt) (Sha.macKey secret salt) s
 obtain⟨B,hB⟩:∃B,B=V7 (Sha.encKey secret salt) (Sha.macKey secret salt) s:=⟨_,rfl⟩
 have ha:Vh secret salt id s raw=⟨{ headOf0 secret salt id s raw B with tag:=str (Sha.tag (Sha.headKey secret) (headOf0 secret salt id s raw B).fields.data.toList) },B⟩:=by rw[hB];rfl
 rw[←hB]at hlen
 have hok:(Vh secret salt id s raw).head.okP:=by
  rw[ha]
  refine⟨hid.1,hid.2,?_,?_,?_,?_,?_,?_,hr.1,hr.2⟩
  ·show(str salt).size=16;rw[str_size];exact hs
  ·show(str (rootV B)).size=32;rw[str_size];exact rootV_len B
  ·show(str _).size=32;rw[str_size,Sha.tag_length]
  ·show(1:Int)≤(s.length:Nat);omega
  ·show((s.length:Nat):Int)≤49152;omega
  ·show((B.length:Nat):Int)=((s.length:Nat)+191)/192
   rw[hlen];omega
 refine⟨hok,?_,?_,?_,?_⟩
 ·unfold Header.verify
  rw[if_neg (by rw[(Header.check_zero _).2 hok];decide)]
  have:sameB (Sha.tag (Sha.headKey secret) (Vh secret salt id s raw).head.fields.data.toList) (Vh secret salt id s raw).head.tag.data.toList=true:=by
   rw[ha]
   exact sameB_refl _
  rw[if_pos this]
 ·rw[ha];rfl
 ·rw[ha,hB];exact sealed_size _ _ _
 ·rw[ha];rfl
theorem arcOf_id(secret salt:List UInt8)(id:Int)(s:List UInt8)(raw:Int):(Vh secret salt id s raw).head.id=id:=rfl
theorem arcOf_len(secret salt:List UInt8)(id:Int)(s:List UInt8)(raw:Int):(Vh secret salt id s raw).blocks.length=(s.length+191)/192:=sealed_len _ _ _
def Qg(h:Header)(V:Value):List Value:=h.cells++[V]
theorem Vz(n k:Int)(h0:0≤n)(hn:n<4611686018427387904)(hk1:0≤k)(hk:k≤8)(m:Mem):
 Abs.Spec qc 144 [.int .i64 n,.int .i64 k] m fun u M=>u=.string (str (Sha.fixed n k.toNat))∧M=m:=
 Abs.Spec.of_flat (by simp[flat]) rfl fun w=>rfixed_i n k h0 hn hk1 hk w
theorem xor_at(key nonce s:List UInt8)(c:Nat)(hk:key.length=32)(hn:nonce.length=12)(hc:c≤1000)(hs:s.length≤1000000)(hs0:0<s.length)(m:Mem):
 Abs.Spec qc 265 [.string (str key),.string (str nonce),.int .i64 (c:Int),.string (str s)] m fun u M=>u=.tuple #[.string (str (Cha.xorN key nonce c s s.length)),.int .i64 0]∧M=m:=
 Abs.Spec.of_empty (by intro x hx;simp at hx;rcases hx with rfl|rfl|rfl|rfl<;>rfl) rfl (xor_spec ⟨[]⟩ (str key) (str nonce) (str s) c (by rw[str_size];exact hk) (by rw[str_size];exact hn) hc (by rw[str_size];exact hs) (by rw[str_size];exact hs0)) m
theorem rkeys_at(secret salt:List UInt8)(h1:secret.length≤1000000)(h2:salt.length≤1000000)(m:Mem):
 Abs.Spec qc 177 [.string (str secret),.string (str salt)] m fun u M=>u=keysV secret salt∧M=m:=
 Abs.Spec.of_empty (by intro x hx;simp at hx;rcases hx with rfl|rfl<;>rfl) rfl (rkeys_spec ⟨[]⟩ (str secret) (str salt) (by rw[str_size];omega) (by rw[str_size];omega)) m
theorem right_at(enc mac head:List UInt8)(i:Nat)(he:enc.length=32)(hi:i<256)(m:Mem):
 Abs.Spec qc 264 [.agg #[.string (str enc),.string (str mac),.string (str head)],.int .i64 (i:Nat)] m fun u M=>u=.bool true∧M=m:=by
 refine Abs.Spec.of_empty (by intro x hx;simp at hx;rcases hx with rfl|rfl<;>rfl) rfl ?_ m
 refine WM Tryz.func264 Tryz.results264 Tryz.ntmps264 fun _=>?_
 have bx:QS qc 94 (.agg #[.string (str enc),.string (str mac),.string (str head)])=some (.cells false (J6 qc 94) [.string (str enc),.string (str mac),.string (str head)]):=bx_Keys _ rfl
 generalize J6 qc 94=s1 at bx
 have k0:cellIn 0 (some (.cells false s1 [.string (str enc),.string (str mac),.string (str head)]))=some (.string (str enc)):=rfl
 have hb:JA (str enc)=32:=he
 have q1:(((32:Nat):Int)==32)=true:=rfl
 have q2:decide ((i:Int)≥0)=true:=by simp
 have q3:decide ((i:Int)<256)=true:=decide_eq_true (by omega)
 refine J0 (R1 @bx ?_)
 refine J0 (R6 @Mem.get_push_new @k0 @hb @q1 @q2 @q3 ?_)
 refine T0 ?_
 first|exact⟨_,Thin.refl _,rfl⟩|exact⟨_,Thin.refl _⟩|exact⟨_,Thin.refl _,rfl,rfl⟩
theorem keys_cells(a b c:List UInt8):(Value.agg #[.string (str a),.string (str b),.string (str c)]).cells.toList=[.string (str a),.string (str b),.string (str c)]:=rfl
theorem seal_at(enc mac head c:List UInt8)(i:Nat)(he:enc.length=32)(hm:mac.length=32)(hi:i<256)(hc:c.length=192)(m:Mem):
 Abs.Spec qc 201 [.agg #[.string (str enc),.string (str mac),.string (str head)],.int .i64 (i:Nat),.string (str c)] m fun u M=>u=.tuple #[.string (str (sealV enc mac i c)),.int .i64 0]∧M=m:=by
 refine Abs.Spec.of_empty (by intro x hx;simp at hx;rcases hx with rfl|rfl|rfl<;>rfl) rfl ?_ m
 refine WM Tryz.func201 Tryz.results201 Tryz.ntmps201 fun _=>?_
 have bx:QS qc 94 (.agg #[.string (str enc),.string (str mac),.string (str head)])=some (.cells false (J6 qc 94) [.string (str enc),.string (str mac),.string (str head)]):=bx_Keys _ rfl
 generalize J6 qc 94=s1 at bx
 have k0:cellIn 0 (some (.cells false s1 [.string (str enc),.string (str mac),.string (str head)]))=some (.string (str enc)):=rfl
 have k1:cellIn 1 (some (.cells false s1 [.string (str enc),.string (str mac),.string (str head)]))=some (.string (str mac)):=rfl
 have k3:Jv 3 0 (some (.cells false s1 [.string (str enc),.string (str mac),.string (str head)]))=some (.agg #[.string (str enc),.string (str mac),.string (str head)]):=rfl
 have hb:JA (str c)=192:=hc
 have q1:(((192:Nat):Int) !=192)=false:=rfl
 have e4:(⟨#[83,76,68,71]⟩:ByteArray)=str [83,76,68,71]:=rfl
 have f8:(Sha.fixed (i:Int) 8).length=8:=Sha.fixed_length _ _
 have f4:(Sha.fixed (i:Int) 4).length=4:=Sha.fixed_length _ _
 have xl:=xorN_len enc (nonceV i) 1 c 192
 have nl:(nonceV i).length=12:=by unfold nonceV;rw[qd,f8];rfl
 have xa:=xor_at enc (nonceV i) c 1 he nl (by decide) (by omega) (by omega)
 rw[hc]at xa
 obtain⟨X,hX⟩:∃X,X=Cha.xorN enc (nonceV i) 1 c 192:=⟨_,rfl⟩
 rw[←hX]at xa xl
 have hS:sealV enc mac i c=X++Sha.tag mac (Sha.fixed (i:Int) 4++X):=by rw[hX];rfl
 rw[hS]
 have tl:=Sha.tag_length mac (Sha.fixed (i:Int) 4++X)
 refine J0 (R1 @bx ?_)
 refine J0 (J0 (R2 @Mem.get_push_new @k3 ?_))
 refine K2 @hb @q1 (right_at enc mac head i he hi _) ?_
 refine CF (J3 ?_)
 refine S0 ?_
 refine J0 (D2 11 @Mem.get_push_new @k0 ?_)
 refine⟨by kernel_rfl,_,Vz (i:Nat) 8 (by omega) (by omega) (by decide) (by decide) _,?_⟩
 refine⟨by decide,?_⟩
 have t8:(8:Int).toNat=8:=rfl
 refine S4 @t8 @e4 @Zw @ZU ?_
 refine⟨by first|omega|(simp<;>omega),?_⟩
 refine⟨by kernel_rfl,_,xa _,?_⟩
 refine⟨by decide,?_⟩
 refine S0 ?_
 refine J0 (D2 8 @Mem.get_push_new @k1 ?_)
 refine⟨by kernel_rfl,_,Vz (i:Nat) 4 (by omega) (by omega) (by decide) (by decide) _,?_⟩
 refine⟨by decide,?_⟩
 have t4:(4:Int).toNat=4:=rfl
 refine S3 @t4 @Zw @ZU ?_
 refine⟨by first|omega|(simp<;>omega),?_⟩
 refine⟨by kernel_rfl,_,rtag_at _ (str mac) (str (Sha.fixed (i:Int) 4++X)) (by rw[str_size];omega) (by rw[str_size,qd];omega),?_⟩
 refine⟨by decide,?_⟩
 have ex:(str mac).data.toList=mac:=rfl
 have ey:(str (Sha.fixed (i:Int) 4++X)).data.toList=Sha.fixed (i:Int) 4++X:=rfl
 rw[ex,ey]
 refine S2 @Zw @ZU ?_
 refine⟨by omega,?_⟩
 refine T0 ?_
 first|exact⟨_,Thin.refl _,rfl⟩|exact⟨_,Thin.refl _⟩|exact⟨_,Thin.refl _,rfl,rfl⟩
theorem rfields_at(h:Header)(h1:0≤h.id∧h.id≤4294967295)(h2:0≤h.n∧h.n≤100000)(h3:0≤h.bytes∧h.bytes≤100000)(h4:0≤h.raw∧h.raw≤1000000000)(hs:h.salt.size≤1000000)(hr:h.root.size≤1000000)(m:Mem):
 Abs.Spec qc 65 [.agg h.cells.toArray] m fun u M=>u=.string h.fields∧M=m:=by
 refine Abs.Spec.of_empty (by intro x hx;simp at hx;subst hx;rfl) rfl ?_ m
 refine WM Tryz.func65 Tryz.results65 Tryz.ntmps65 fun _=>?_
 have bx:QS qc 33 (.agg h.cells.toArray)=some (.cells false (J6 qc 33) h.cells):=bx_Hdr _ rfl
 generalize J6 qc 33=s1 at bx
 have k0:cellIn 0 (some (.cells false s1 h.cells))=some (.int .i64 h.id):=rfl
 have k1:cellIn 1 (some (.cells false s1 h.cells))=some (.string h.salt):=rfl
 have k2:cellIn 2 (some (.cells false s1 h.cells))=some (.int .i64 h.n):=rfl
 have k3:cellIn 3 (some (.cells false s1 h.cells))=some (.int .i64 h.bytes):=rfl
 have k4:cellIn 4 (some (.cells false s1 h.cells))=some (.int .i64 h.raw):=rfl
 have k5:cellIn 5 (some (.cells false s1 h.cells))=some (.string h.root):=rfl
 obtain⟨F1,hF1⟩:∃F,F=Sha.fixed h.id 4:=⟨_,rfl⟩
 obtain⟨F2,hF2⟩:∃F,F=Sha.fixed h.n 2:=⟨_,rfl⟩
 obtain⟨F3,hF3⟩:∃F,F=Sha.fixed h.bytes 4:=⟨_,rfl⟩
 obtain⟨F4,hF4⟩:∃F,F=Sha.fixed h.raw 4:=⟨_,rfl⟩
 have l1:F1.length=4:=by rw[hF1];exact Sha.fixed_length _ _
 have l2:F2.length=2:=by rw[hF2];exact Sha.fixed_length _ _
 have l3:F3.length=4:=by rw[hF3];exact Sha.fixed_length _ _
 have l4:F4.length=4:=by rw[hF4];exact Sha.fixed_length _ _
 have s1':=fun m=>Vz h.id 4 h1.1 (by omega) (by decide) (by decide) m
 have s2':=fun m=>Vz h.n 2 h2.1 (by omega) (by decide) (by decide) m
 have s3':=fun m=>Vz h.bytes 4 h3.1 (by omega) (by decide) (by decide) m
 have s4':=fun m=>Vz h.raw 4 h4.1 (by omega) (by decide) (by decide) m
 have t4:(4:Int).toNat=4:=rfl
 have t2:(2:Int).toNat=2:=rfl
 rw[t4,←hF1]at s1'
 rw[t2,←hF2]at s2'
 rw[t4,←hF3]at s3'
 rw[t4,←hF4]at s4'
 obtain⟨S,hS⟩:∃S,h.salt=str S:=⟨h.salt.data.toList,rfl⟩
 obtain⟨T,hT⟩:∃S,h.root=str S:=⟨h.root.data.toList,rfl⟩
 have hSl:S.length≤1000000:=by rw[hS,str_size]at hs;exact hs
 have hTl:T.length≤1000000:=by rw[hT,str_size]at hr;exact hr
 rw[hS]at k1
 rw[hT]at k5
 have hf:h.fields=str (((((([83,76,71,49]++F1)++S)++F2)++F3)++F4)++T):=by
  unfold Header.fields
  rw[←hF1,←hF2,←hF3,←hF4,hS,hT]
  simp only[str]
  apply ByteArray.ext
  simp
 have e4:(⟨#[83,76,71,49]⟩:ByteArray)=str [83,76,71,49]:=rfl
 have big:∀{a b:Nat},a≤3000000→b≤3000000→a+b≤4611686018427387904:=by omega
 refine J0 (R1 @bx ?_)
 refine J0 (D2 21 @Mem.get_push_new @k0 ?_)
 refine⟨by kernel_rfl,_,s1' _,?_⟩
 refine⟨by decide,?_⟩
 simp only[zZ,reduceIte,yQ,yW,yX,yZ,yJ,yK,yV,zDk,Jc,Jb,Ja,J9,XQ,Mem.get_push_new,k1,k2,e4,Zw,ZU,qd,qr,qm,l1]
 refine⟨by omega,by omega,?_⟩
 refine⟨by kernel_rfl,_,s2' _,?_⟩
 refine⟨by decide,?_⟩
 refine S9 @Mem.get_push_new @k3 @Zw @ZU @qd.{0} @qr.{0} @qm.{0} @l1 @l2 ?_
 refine⟨by omega,?_⟩
 refine⟨by kernel_rfl,_,s3' _,?_⟩
 refine⟨by decide,?_⟩
 simp only[zZ,reduceIte,yQ,yW,yX,yZ,yJ,yK,yV,zDk,Jc,Jb,Ja,J9,XQ,Mem.get_push_new,k4,Zw,ZU,qd,qr,qm,l1,l2,l3]
 refine⟨by omega,?_⟩
 refine⟨by kernel_rfl,_,s4' _,?_⟩
 refine⟨by decide,?_⟩
 simp only[zZ,reduceIte,yQ,yW,yX,yZ,yJ,yK,yV,zDk,Jc,Jb,Ja,J9,XQ,Mem.get_push_new,k5,Zw,ZU,qd,qr,qm,l1,l2,l3,l4]
 refine⟨by omega,by omega,?_⟩
 refine T0 ?_
 rw[hf]
 first|exact⟨_,Thin.refl _,rfl⟩|exact⟨_,Thin.refl _⟩|exact⟨_,Thin.refl _,rfl,rfl⟩
def noSlot(_:Unit):List Value:=.bool false::noExt.cells++[.slice none 0 0]
abbrev SlotsOwn(k:Nat)(M:Mem)(V:Value)(L:List Unit):Prop:=OwnL noSlot 10 k M V L
theorem new_slot1:Jx qc 44 1 [(0,.agg (noSlot ()).toArray)]=some (.cells false 10 (noSlot ())):=by kernel_rfl
theorem slotapp{k:Nat}{M:Mem}{V:Value}{L:List Unit}(h:SlotsOwn k M V L)(hk:k≤M.size)(hl:L.length≤1000000):
 ∃M' V',JN qc (M.push (.cells false 10 (noSlot ()))) 44 44 V (.slice (some ⟨M.size,0,none⟩) 1 1)=some (V',M')∧QA V'=some (M.size+1)∧SlotsOwn k M' V' (L++[()])∧
  M'.size=M.size+2∧(∀b y,QA V≠some b→M.get b=some y→M'.get b=some y):=
 oapp Tryz.underlying44 inf_Slot (show Tryz.t247.zero=some (.agg (noSlot ()).toArray) by kernel_rfl) sz_Slot rfl Tryz.underlying44 (fun _=>rfl) (show Tryz.t247.bytes≤1000 by decide) h hk hl () 10
theorem OwnL.one{α:Type}{enc:α→List Value}{N k:Nat}{M:Mem}{V:Value}{L:List α}(h:OwnL enc N k M V L):Jn [V]=true∧V.cells.toList=[V]:=by
 rcases h with⟨_,rfl⟩|⟨_,g,_,rfl,_⟩<;>exact⟨rfl,rfl⟩
def Za(e:Nat)(key:List UInt8)(ep:Int)(VO VK:Value):List Value:=[.pointer (some ⟨e,0,none⟩),.string (str key),.int .i64 ep,VO,VK,.int .i64 0]
theorem ropen_spec{M:Mem}{e n bO bL bF:Nat}(h:RB M e n bO bL bF)(h13:13≤n)(hn:n≤1024)(sec:List UInt8)(hsec:sec.length≤1000000):
 Abs.Spec qc 101 [.pointer (some ⟨e,0,none⟩),.string (str sec)] M fun u M'=>∃Q s VO VK,u=.tuple #[.pointer (some ⟨Q,0,none⟩),.int .i64 0]∧M'.get Q=some (.cells false s (Za e (Sha.headKey sec) 1 VO VK))∧M.size≤Q∧Only [bO,bL,bF] M M'∧M.size≤M'.size:=by
 obtain⟨key,hkey⟩:∃key,key=Sha.headKey sec:=⟨_,rfl⟩
 rw[←hkey]
 obtain⟨s0,hr0⟩:=h.1.row
 have c0:cellIn 0 (some (.cells false s0 [Us bO n,Us bL n,Us bF n,.int .i64 (-1),.bool false]))=some (.slice (some ⟨bO,0,none⟩) n n):=rfl
 have q13:decide ((n:Int)<13)=false:=decide_eq_false (by omega)
 have q0:((0:Int) !=0)=false:=rfl
 have q8:((8:Int)==0)=false:=rfl
 have q9:((8:Int) !=8)=false:=rfl
 have es:(⟨#[]⟩:ByteArray)=str []:=rfl
 have hkv:keysV sec []=.agg #[.string (str (Sha.encKey sec [])),.string (str (Sha.macKey sec [])),.string (str key)]:=by rw[hkey];rfl
 have hfld:vField qc 94 (some (.agg #[.string (str (Sha.encKey sec [])),.string (str (Sha.macKey sec [])),.string (str key)])) 2=some (.string (str key)):=by rfl
 have bd:Qo qc 46 [(0,.pointer (some ⟨e,0,none⟩)),(1,.string (str key))]=some (.agg (Za e key 0 (.slice none 0 0) (.slice none 0 0)).toArray):=by kernel_rfl
 have bx:QS qc 46 (.agg (Za e key 0 (.slice none 0 0) (.slice none 0 0)).toArray)=some (.cells false (J6 qc 46) (Za e key 0 (.slice none 0 0) (.slice none 0 0))):=bx_RDep _ rfl
 generalize J6 qc 46=s1 at bx
 have hal:Qd qc 102=some (.cells false (J6 qc 102) noExt.cells):=al_Ext
 generalize J6 qc 102=s2 at hal
 have agg8:∀x:Ext,(Value.agg x.cells.toArray).cells.toList=x.cells:=fun _=>rfl
 have put8:∀(M0:Mem)(b:Nat)(x y:Ext),Ji 8 M0 b 0 y.cells (some (.cells false s2 x.cells))=some (M0.set b (some (.cells false s2 y.cells))):=fun _ _ _ _=>rfl
 have row8:∀(x:Ext),Jv 8 0 (some (.cells false s2 x.cells))=some (.agg x.cells.toArray):=fun _=>rfl
 have bdX:Qo qc 102 []=some (.agg noExt.cells.toArray):=by kernel_rfl
 have bdS:Qo qc 247 [(0,.bool false),(1,.agg noExt.cells.toArray)]=some (.agg (noSlot ()).toArray):=by kernel_rfl
 have bdS0:Qo qc 247 []=some (.agg (noSlot ()).toArray):=by kernel_rfl
 have k3:∀ep VO VK,cellIn 3 (some (.cells false s1 (Za e key ep VO VK)))=some VO:=fun _ _ _=>rfl
 have k4:∀ep VO VK,cellIn 4 (some (.cells false s1 (Za e key ep VO VK)))=some VK:=fun _ _ _=>rfl
 obtain⟨Q,hQ⟩:∃Q,Q=M.size:=⟨_,rfl⟩
 obtain⟨M1,hM1⟩:∃M1,M1=M.push (.cells false s1 (Za e key 0 (.slice none 0 0) (.slice none 0 0))):=⟨_,rfl⟩
 have g1:M1.get Q=some (.cells false s1 (Za e key 0 (.slice none 0 0) (.slice none 0 0))):=by rw[hM1,hQ,Mem.get_push_new]
 have sz1:M1.size=Q+1:=by rw[hM1,Mem.size_push,hQ]
 have new:=new_slot1
 refine WM Tryz.func101 Tryz.results101 Tryz.ntmps101 fun _=>?_
 refine J0 (R0 ?_)
 refine J0 (J0 (R3 @hr0 @c0 @q13 ?_))
 refine CF (J3 ?_)
 refine S0 ?_
 refine J0 (R0 ?_)
 refine⟨by kernel_rfl,_,rkeys_at sec [] hsec (by decide) M,?_⟩
 rintro _ M9 ⟨rfl,e9⟩;replace e9:=e9.symm;subst e9
 rw[hkv]
 refine S3 @hfld @bd @bx ?_
 rw[←hM1,←hQ]
 refine QR (fun f M'=>∃VK,f=[(0,.pointer (some ⟨e,0,none⟩)),(6,.pointer (some ⟨Q,0,none⟩))]∧M'.get Q=some (.cells false s1 (Za e key 0 (.slice none 0 0) VK))∧SlotsOwn (Q+1) M' VK (qo 8 ())∧(∀b x,M.get b=some x→M'.get b=some x)∧Q+1≤M'.size) ?_ ?_
 ·refine J0 (R0 ?_)
  refine J8 (Jt (fun j f M'=>∃(i:Nat)(VK:Value),j=8-i∧f=[(0,.pointer (some ⟨e,0,none⟩)),(6,.pointer (some ⟨Q,0,none⟩)),(7,.int .i64 (i:Nat))]∧i≤8∧
   M'.get Q=some (.cells false s1 (Za e key 0 (.slice none 0 0) VK))∧SlotsOwn (Q+1) M' VK (qo i ())∧(∀b x,M.get b=some x→M'.get b=some x)∧Q+1≤M'.size) 8 ?_ ?_)
  ·refine JK [0,6,7] ?_
   exact⟨M1,Thin.refl _,0,_,rfl,rfl,by omega,g1,OwnL.nil _ _,fun b x hx=>by rw[hM1,Mem.get_push_old (Mem.get_lt hx)];exact hx,by omega⟩
  ·rintro j f M' ⟨i,VK,rfl,rfl,hi,hrow,hown,hold,hsz⟩
   refine J0 (J0 (R0 ?_))
   refine CC (decide ((i:Int)<8)) (fun hq=>J3 ?_) (fun hq=>Jp ?_)
   ·have hq:=of_decide_eq_true hq
    have w5:IntKind.i64.wrap (5+(i:Int))=((5+i:Nat):Int):=by rw[Xl (by omega) (by omega)];omega
    have w1:IntKind.i64.wrap ((i:Int)+1)=((i+1:Nat):Int):=by rw[Xl (by omega) (by omega)];omega
    have hb:=h.same hold
    refine S0 ?_
    refine J0 (J8 (J0 (R1 @w5 ?_)))
    refine K0 (rread_at hb hn (5+i) (by omega)) ?_
    refine J0 (J0 (R1 @q0 ?_))
    refine CF (J3 ?_)
    refine S0 ?_
    obtain⟨b2,hb2⟩:∃b,b=M'.size:=⟨_,rfl⟩
    obtain⟨M2,hM2⟩:∃M2,M2=(M'.push (.cells false s2 noExt.cells)).set M'.size (some (.cells false s2 noExt.cells)):=⟨_,rfl⟩
    have mo2:∀b x,M'.get b=some x→M2.get b=some x:=fun b x hx=>by
     have:=Mem.get_lt hx
     rw[hM2,Mem.get_set_ne (by omega),Mem.get_push_old this];exact hx
    have g2:M2.get b2=some (.cells false s2 noExt.cells):=by rw[hM2,hb2];exact Mem.get_set_same (Mem.get_push_new _ _) _
    have s2z:M2.size=M'.size+1:=by rw[hM2,Mem.size_set,Mem.size_push]
    refine J0 (R0 ?_)
    refine K4 @hal @Mem.get_push_new @agg8 @put8 (rcat_at _) ?_
    rw[←hM2,←hb2]
    refine J0 (R1 @q8 ?_)
    refine J0 (J0 (R0 ?_))
    refine CT (J1 ?_)
    obtain⟨M3,hM3⟩:∃M3,M3=M2.set b2 (some (.cells false s2 noExt.cells)):=⟨_,rfl⟩
    have g3:M3.get b2=some (.cells false s2 noExt.cells):=by rw[hM3];exact Mem.get_set_same g2 _
    have mo3:∀b x,M'.get b=some x→M3.get b=some x:=fun b x hx=>by
     have:=Mem.get_lt hx
     rw[hM3,Mem.get_set_ne (by omega)];exact mo2 b x hx
    have s3z:M3.size=M'.size+1:=by rw[hM3,Mem.size_set,s2z]
    have r3:=mo3 Q _ hrow
    have own3:=hown.same (M':=M3) fun b x _ hx=>mo3 b x hx
    obtain⟨M4,VK',ap4,hb4,own4,hs4,ho4⟩:=slotapp own3 (by omega) (by simp;omega)
    rw[rep_succ]at own4
    have neQ:QA VK≠some Q:=fun hb=>by have:=(own3.live hb).1;omega
    have r4:=ho4 Q _ neQ r3
    have p4:Ji 1 M4 Q 4 [VK'] (some (.cells false s1 (Za e key 0 (.slice none 0 0) VK)))=some (M4.set Q (some (.cells false s1 (Za e key 0 (.slice none 0 0) VK')))):=by
     show(if [VK'].length=1∧4+[VK'].length≤6∧Jn [VK']=true then some (M4.set Q (some (.cells false s1 (setL (Za e key 0 (.slice none 0 0) VK) 4 [VK']))))else none)=_
     rw[if_pos ⟨rfl,by show 4+1≤6;decide,own4.one.1⟩];rfl
    have a4:=own4.one.2
    refine S4 @bdX @g2 @agg8 @put8 ?_
    rw[←hM3]
    refine CW_draw2 hmix 9 (by kernel_rfl) ?_
    simp only[zZ,reduceIte,yQ,yW,yX,yZ,yJ,yK,yV,zDk,Jc,Jb,Ja,J9,XQ,r3,k4,g3,row8,bdS,new,ap4,r4,a4,p4]
    refine R1 @w1 ?_
    refine JK [0,6,7] ?_
    exact⟨_,Thin.refl _,8-(i+1),⟨i+1,VK',rfl,rfl,by omega,Mem.get_set_same r4 _,own4.set_low (by omega) _,fun b x hx=>by
     have:=Mem.get_lt hx
     rw[Mem.get_set_ne (by omega)]
     exact ho4 b x (fun hb=>by have:=(own3.live hb).1;omega) (mo3 b x (hold b x hx)),by rw[Mem.size_set];omega⟩,by omega⟩
   ·have hq:=of_decide_eq_false hq
    have h8:i=8:=by omega
    subst h8
    refine S0 ?_
    refine JK [0,6] ?_
    exact⟨M',Thin.refl _,VK,hrow,hown,hold,hsz⟩
 ·rintro f M8 ⟨VK,rfl,hrow8,hown8,hold8,hsz8⟩
  refine J0 (J0 (R0 ?_))
  refine J8 (Jt (fun j f M'=>∃(i:Nat)(VO:Value),j=4-i∧f=[(0,.pointer (some ⟨e,0,none⟩)),(6,.pointer (some ⟨Q,0,none⟩)),(13,.int .i64 (i:Nat))]∧i≤4∧
   M'.get Q=some (.cells false s1 (Za e key 0 VO VK))∧SlotsOwn (Q+1) M' VO (qo i ())∧(∀b x,M.get b=some x→M'.get b=some x)∧Q+1≤M'.size) 4 ?_ ?_)
  ·refine JK [0,6,13] ?_
   exact⟨M8,Thin.refl _,0,_,rfl,rfl,by omega,hrow8,OwnL.nil _ _,hold8,hsz8⟩
  ·rintro j f M' ⟨i,VO,rfl,rfl,hi,hrow,hown,hold,hsz⟩
   refine J0 (J0 (R0 ?_))
   refine CC (decide ((i:Int)<4)) (fun hq=>J3 ?_) (fun hq=>Jp ?_)
   ·have hq:=of_decide_eq_true hq
    have w5:IntKind.i64.wrap (1+(i:Int))=((1+i:Nat):Int):=by rw[Xl (by omega) (by omega)];omega
    have w1:IntKind.i64.wrap ((i:Int)+1)=((i+1:Nat):Int):=by rw[Xl (by omega) (by omega)];omega
    have hb:=h.same hold
    refine S0 ?_
    refine J0 (J8 (J0 (R1 @w5 ?_)))
    refine K0 (rread_at hb hn (1+i) (by omega)) ?_
    refine J0 (J0 (R1 @q0 ?_))
    refine CF (J3 ?_)
    refine S0 ?_
    obtain⟨M2,hM2⟩:∃M2,M2=(M'.push (.cells false s2 noExt.cells)).set M'.size (some (.cells false s2 noExt.cells)):=⟨_,rfl⟩
    have mo2:∀b x,M'.get b=some x→M2.get b=some x:=fun b x hx=>by
     have:=Mem.get_lt hx
     rw[hM2,Mem.get_set_ne (by omega),Mem.get_push_old this];exact hx
    have s2z:M2.size=M'.size+1:=by rw[hM2,Mem.size_set,Mem.size_push]
    have r3:=mo2 Q _ hrow
    have own3:=hown.same (M':=M2) fun b x _ hx=>mo2 b x hx
    obtain⟨M4,VO',ap4,hb4,own4,hs4,ho4⟩:=slotapp own3 (by omega) (by simp;omega)
    rw[rep_succ]at own4
    have neQ:QA VO≠some Q:=fun hb=>by have:=(own3.live hb).1;omega
    have r4:=ho4 Q _ neQ r3
    have p4:Ji 1 M4 Q 3 [VO'] (some (.cells false s1 (Za e key 0 VO VK)))=some (M4.set Q (some (.cells false s1 (Za e key 0 VO' VK)))):=by
     show(if [VO'].length=1∧3+[VO'].length≤6∧Jn [VO']=true then some (M4.set Q (some (.cells false s1 (setL (Za e key 0 VO VK) 3 [VO']))))else none)=_
     rw[if_pos ⟨rfl,by show 3+1≤6;decide,own4.one.1⟩];rfl
    have a4:=own4.one.2
    refine J0 (R0 ?_)
    refine K4 @hal @Mem.get_push_new @agg8 @put8 (rjou_at _) ?_
    rw[←hM2]
    refine J0 (R1 @q8 ?_)
    refine J0 (J0 (R0 ?_))
    refine CF (J3 ?_)
    refine S0 ?_
    refine J0 (R8 @r3 @k3 @bdS0 @new @ap4 @r4 @a4 @p4 ?_)
    refine J0 (R1 @q9 ?_)
    refine CF (J3 ?_)
    refine S0 ?_
    refine R1 @w1 ?_
    refine JK [0,6,13] ?_
    exact⟨_,Thin.refl _,4-(i+1),⟨i+1,VO',rfl,rfl,by omega,Mem.get_set_same r4 _,own4.set_low (by omega) _,fun b x hx=>by
     have:=Mem.get_lt hx
     rw[Mem.get_set_ne (by omega)]
     exact ho4 b x (fun hb=>by have:=(own3.live hb).1;omega) (mo2 b x (hold b x hx)),by rw[Mem.size_set];omega⟩,by omega⟩
   ·have hb:=h.same hold
    have lO:=Mem.get_lt h.2
    obtain⟨_,_,gO⟩:=h.1.old
    obtain⟨_,_,gF⟩:=h.1.fresh
    have lO:=Mem.get_lt gO
    have lL:=Mem.get_lt h.2
    have lF:=Mem.get_lt gF
    refine S0 ?_
    refine J0 (R0 ?_)
    refine⟨by kernel_rfl,_,rnext_at hb (by omega) hn,?_⟩
    rintro _ M9 ⟨rfl,h9,ho9,hs9⟩
    have r9:=ho9 Q _ (by simp;omega) hrow
    have p9:Ji 1 M9 Q 2 [.int .i64 1] (some (.cells false s1 (Za e key 0 VO VK)))=some (M9.set Q (some (.cells false s1 (Za e key 1 VO VK)))):=rfl
    have aI:(Value.int .i64 1).cells.toList=[.int .i64 1]:=rfl
    refine S0 ?_
    refine J0 (J0 (R1 @q0 ?_))
    refine CF (J3 ?_)
    refine S0 ?_
    refine J0 (R3 @r9 @aI @p9 ?_)
    refine J0 (R0 ?_)
    refine T0 ?_
    exact⟨_,Thin.refl _,Q,s1,VO,VK,rfl,Mem.get_set_same r9 _,by omega,fun b x hb hx=>by
     have:=Mem.get_lt hx
     rw[Mem.get_set_ne (by omega)]
     exact ho9 b x hb (hold b x hx),by rw[Mem.size_set];omega⟩
def encB(b:UInt8):List Value:=[Jy b]
abbrev BytesOwn(k:Nat)(M:Mem)(V:Value)(L:List UInt8):Prop:=OwnL encB 1 k M V L
theorem new_byte(x:Int)(b:UInt8)(h:x=(b.toNat:Int)):Jx qc 110 1 [(0,.int .u8 x)]=some (.cells false 1 (encB b)):=by
 subst h;exact new_u8 _
theorem byapp{k:Nat}{M:Mem}{V:Value}{L:List UInt8}(h:BytesOwn k M V L)(hk:k≤M.size)(hl:L.length≤1000000)(x:UInt8):
 ∃M' V',JN qc (M.push (.cells false 1 (encB x))) 110 110 V (.slice (some ⟨M.size,0,none⟩) 1 1)=some (V',M')∧QA V'=some (M.size+1)∧BytesOwn k M' V' (L++[x])∧
  M'.size=M.size+2∧(∀b y,QA V≠some b→M.get b=some y→M'.get b=some y):=
 oapp qw Zn u8_zero Xu rfl qw (fun _=>rfl) (by rw[u8_bytes];decide) h hk hl x 1
theorem bytes_cells(L:List UInt8):L.flatMap encB=J5 L:=Xm Jy L
theorem BytesOwn.text{k:Nat}{M:Mem}{V:Value}{L:List UInt8}(h:BytesOwn k M V L)(h0:L≠ []):Xs qc M.get 110 9 V=some (.string (str L)):=by
 rcases h with⟨h1,_⟩|⟨_,g,_,rfl,hg⟩
 ·exact absurd h1 h0
 ·rw[bytes_cells]at hg
  exact to_str hg rfl
def US(s:List UInt8)(i t:Nat):List UInt8:=(qq t).map fun j=>s.getD (192*i+j) 0
theorem chunkUpto_succ(s:List UInt8)(i t:Nat):US s i t++[s.getD (192*i+t) 0]=US s i (t+1):=by
 unfold US
 rw[qt,qy]
 rfl
theorem chunks_succ(s:List UInt8)(i:Nat):(qq i).map (Qy s)++[Qy s i]=(qq (i+1)).map (Qy s):=by
 rw[qt,qy]
 rfl
theorem rsplit_spec(s:List UInt8)(hs:s.length≤100000)(M:Mem):
 Abs.Spec qc 200 [.string (str s)] M fun u M'=>QD M.size M' u (UR s)∧More M M':=by
 have hbs:JA (str s)=s.length:=rfl
 refine WM Tryz.func200 Tryz.results200 Tryz.ntmps200 fun _=>?_
 refine J0 (R0 ?_)
 refine J0 (R0 ?_)
 refine J0 (J0 (R0 ?_))
 refine J8 (Jt (fun j f M'=>∃(i:Nat)(V:Value),j=s.length-192*i∧f=[(0,.string (str s)),(3,V),(4,.int .i64 ((192*i:Nat):Int))]∧192*i≤s.length+191∧
  QD M.size M' V ((qq i).map (Qy s))∧(∀b x,b<M.size→M.get b=some x→M'.get b=some x)∧M.size≤M'.size) s.length ?_ ?_)
 ·refine JK [0,3,4] ?_
  exact⟨M,Thin.refl _,0,_,rfl,rfl,by omega,OwnL.nil _ _,fun _ _ _ h=>h,qx _⟩
 ·rintro j f M' ⟨i,V,rfl,rfl,hi,hown,hold,hsz⟩
  refine J0 (J0 (R1 @hbs ?_))
  refine CC (decide (((192*i:Nat):Int)<((s.length:Nat):Int))) (fun hq=>J3 ?_) (fun hq=>Jp ?_)
  ·have hiL:192*i<s.length:=by have:=of_decide_eq_true hq;omega
   have w192:IntKind.i64.wrap (((192*i:Nat):Int)+192)=((192*(i+1):Nat):Int):=by rw[Xl (by omega) (by omega)];omega
   refine S0 ?_
   refine J0 (J8 (J0 (R0 ?_)))
   refine QR (fun f M2=>∃B,f=[(0,.string (str s)),(3,V),(4,.int .i64 ((192*i:Nat):Int)),(5,B)]∧BytesOwn M'.size M2 B (Qy s i)∧(∀b x,b<M'.size→M'.get b=some x→M2.get b=some x)∧M'.size≤M2.size) ?_ ?_
   ·refine J0 (R0 ?_)
    refine J8 (Jt (fun jj f M2=>∃(t:Nat)(B:Value),jj=192-t∧f=[(0,.string (str s)),(3,V),(4,.int .i64 ((192*i:Nat):Int)),(5,B),(6,.int .i64 ((192*i+t:Nat):Int))]∧t≤192∧
     BytesOwn M'.size M2 B (US s i t)∧(∀b x,b<M'.size→M'.get b=some x→M2.get b=some x)∧M'.size≤M2.size) 192 ?_ ?_)
    ·refine JK [0,3,4,5,6] ?_
     exact⟨M',Thin.refl _,0,_,rfl,rfl,by omega,OwnL.nil _ _,fun _ _ _ h=>h,qx _⟩
    ·rintro jj f M2 ⟨t,B,rfl,rfl,ht,hb,hold2,hsz2⟩
     refine J0 (J0 (R1 @w192 ?_))
     refine CC (decide (((192*i+t:Nat):Int)<((192*(i+1):Nat):Int))) (fun hq=>J3 ?_) (fun hq=>Jp ?_)
     ·have ht2:t<192:=by have:=of_decide_eq_true hq;omega
      have w1:IntKind.i64.wrap (((192*i+t:Nat):Int)+1)=((192*i+(t+1):Nat):Int):=by rw[Xl (by omega) (by omega)];omega
      obtain⟨M4,V4,ap4,hb4,hown4,hs4,hold4⟩:=byapp hb hsz2 (by unfold US;rw[qk,List.length_range];omega) (s.getD (192*i+t) 0)
      rw[chunkUpto_succ]at hown4
      refine S0 ?_
      refine J0 (J8 (J0 (R1 @hbs ?_)))
      refine CC (decide (((192*i+t:Nat):Int)<((s.length:Nat):Int))) (fun hq=>J1 ?_) (fun hq=>J1 ?_)
      ·have hit:192*i+t<s.length:=by have:=of_decide_eq_true hq;omega
       have ix:=index_str (str s) _ (192*i+t) rfl (by rw[str_size];exact hit)
       have nb:=new_byte _ (s.getD (192*i+t) 0) rfl
       have e1:(str s).data.toList=s:=rfl
       rw[e1]at ix
       refine S3 @ix @nb @ap4 ?_
       refine R1 @w1 ?_
       refine JK [0,3,4,5,6] ?_
       exact⟨_,Thin.refl _,192-(t+1),⟨t+1,V4,rfl,rfl,by omega,hown4,fun b y hbl hy=>hold4 b y (fun e=>by have:=(hb.live e).1;omega) (hold2 b y hbl hy),by omega⟩,by omega⟩
      ·have hit:s.length≤192*i+t:=by have:=of_decide_eq_false hq;omega
       have nb:=new_byte 0 (s.getD (192*i+t) 0) (by rw[List.getD_eq_getElem?_getD,List.getElem?_eq_none hit];rfl)
       refine S2 @nb @ap4 ?_
       refine R1 @w1 ?_
       refine JK [0,3,4,5,6] ?_
       exact⟨_,Thin.refl _,192-(t+1),⟨t+1,V4,rfl,rfl,by omega,hown4,fun b y hbl hy=>hold4 b y (fun e=>by have:=(hb.live e).1;omega) (hold2 b y hbl hy),by omega⟩,by omega⟩
     ·obtain rfl:t=192:=by have:=of_decide_eq_false hq;omega
      refine JK [0,3,4,5] ?_
      exact⟨M2,Thin.refl _,B,rfl,hb,hold2,hsz2⟩
   rintro _ M2 ⟨B,rfl,hb,hold2,hsz2⟩
   have tx:=hb.text (fun e=>by have:=chunkAt_len s i;rw[e]at this;cases this)
   have hown2:QD M.size M2 V ((qq i).map (Qy s)):=by
    exact hown.same fun b y _ hy=>hold2 b y (Mem.get_lt hy) hy
   obtain⟨aB,cB,rfl⟩:=hb.len
   have nw:=Vb (Qy s i)
   obtain⟨M4,V4,ap4,hb4,hown4,hs4,hold4⟩:=strapp hown2 (by omega) (by rw[qk,List.length_range];omega) (Qy s i)
   rw[chunks_succ]at hown4
   refine R3 @tx @nw @ap4 ?_
   refine R1 @w192 ?_
   refine JK [0,3,4] ?_
   exact⟨_,Thin.refl _,s.length-192*(i+1),⟨i+1,V4,rfl,rfl,by omega,hown4,fun b y hbl hy=>hold4 b y (fun e=>by have:=(hown2.live e).1;omega) (hold2 b y (by omega) (hold b y hbl hy)),by omega⟩,by omega⟩
  ·have hiL:s.length≤192*i:=by have:=of_decide_eq_false hq;omega
   have hi2:i=(s.length+191)/192:=by omega
   refine S0 ?_
   refine J0 (R0 ?_)
   refine T0 ?_
   exact⟨M',Thin.refl _,by unfold UR;rw[←hi2];exact hown,fun b x hb=>hold b x (Mem.get_lt hb) hb,hsz⟩
theorem fields_size(h:Header):h.fields.size=18+h.salt.size+h.root.size:=by
 unfold Header.fields
 simp only[ByteArray.size_append,str_size,Sha.fixed_length]
 show 4+4+_+2+4+4+_=_
 omega
theorem More.setNew{m M:Mem}(h:More m M){b:Nat}(hb:m.size≤b)(x:Option Blk):More m (M.set b x):=
 ⟨fun c y hc=>by have:=Mem.get_lt hc;rw[Mem.get_set_ne (by omega)];exact h.get c y hc,by rw[Mem.size_set];exact h.size⟩
theorem More.pushed{m M:Mem}(h:More m M)(x:Blk):More m (M.push x):=h.trans (More.push _ _)
theorem signed_spec(secret:List UInt8)(hsec:secret.length≤1000000)(h:Header)(h1:0≤h.id∧h.id≤4294967295)(h2:0≤h.n∧h.n≤100000)(h3:0≤h.bytes∧h.bytes≤100000)(h4:0≤h.raw∧h.raw≤1000000000)(hs:h.salt.size≤1000000)(hr:h.root.size≤1000000)
 (a:Option Addr) (n c:Nat) (M:Mem):
 Abs.Spec qc 202 [.string (str secret),.agg (Qg h (.slice a n c)).toArray] M fun u M'=>u=.agg (Qg { h with tag:=str (Sha.tag (Sha.headKey secret) h.fields.data.toList) } (.slice a n c)).toArray∧More M M':=by
 have kl:=ZW secret
 obtain⟨T,hT⟩:∃T,T=Sha.tag (Sha.headKey secret) h.fields.data.toList:=⟨_,rfl⟩
 rw[←hT]
 refine WM Tryz.func202 Tryz.results202 Tryz.ntmps202 fun _=>?_
 have bx:QS qc 61 (.agg (Qg h (.slice a n c)).toArray)=some (.cells false (J6 qc 61) (Qg h (.slice a n c))):=bx_Arc _ rfl
 have hal:Qd qc 61=some (.cells false (J6 qc 61) (Qg noHead (.slice none 0 0))):=al_Arc
 generalize J6 qc 61=s1 at bx hal
 have halH:Qd qc 33=some (.cells false (J6 qc 33) noHead.cells):=al_Hdr
 generalize J6 qc 33=s2 at halH
 have hbd:∀(h:Header),Qo qc 61 [(0,.agg h.cells.toArray),(1,.slice a n c)]=some (.agg (Qg h (.slice a n c)).toArray):=fun h=>by kernel_rfl
 have row7:∀s (h:Header) V,Jv 7 0 (some (.cells false s (Qg h V)))=some (.agg h.cells.toArray):=fun _ _ _=>rfl
 have k7:∀s (h:Header) V,cellIn 7 (some (.cells false s (Qg h V)))=some V:=fun _ _ _=>rfl
 have row8:∀s (h:Header) V,Jv 8 0 (some (.cells false s (Qg h V)))=some (.agg (Qg h V).toArray):=fun _ _ _=>rfl
 have rowH:∀s (h:Header),Jv 7 0 (some (.cells false s h.cells))=some (.agg h.cells.toArray):=fun _ _=>rfl
 have agg7:∀x:Header,(Value.agg x.cells.toArray).cells.toList=x.cells:=fun _=>rfl
 have agg8:∀(h:Header) V,(Value.agg (Qg h V).toArray).cells.toList=Qg h V:=fun _ _=>rfl
 have put7:∀(M0:Mem)(b:Nat)(x y:Header),Ji 7 M0 b 0 y.cells (some (.cells false s2 x.cells))=some (M0.set b (some (.cells false s2 y.cells))):=fun _ _ _ _=>rfl
 have put8:∀(M0:Mem)(b:Nat)(x y:Header) V,Ji 8 M0 b 0 (Qg y (.slice a n c)) (some (.cells false s1 (Qg x V)))=some (M0.set b (some (.cells false s1 (Qg y (.slice a n c))))):=fun _ _ _ _ _=>rfl
 have putT:∀(M0:Mem)(b:Nat)(x:Header)(t:ByteArray),Ji 1 M0 b 6 [.string t] (some (.cells false s2 x.cells))=some (M0.set b (some (.cells false s2 ({ x with tag:=t }:Header).cells))):=fun _ _ _ _=>rfl
 obtain⟨M1,hM1⟩:∃M1,M1=M.push (.cells false s1 (Qg h (.slice a n c))):=⟨_,rfl⟩
 obtain⟨M2,hM2⟩:∃M2,M2=M1.push (.cells false s1 (Qg noHead (.slice none 0 0))):=⟨_,rfl⟩
 obtain⟨b3,hb3⟩:∃b,b=M.size:=⟨_,rfl⟩
 obtain⟨b4,hb4⟩:∃b,b=M1.size:=⟨_,rfl⟩
 have e34:b4=b3+1:=by rw[hb4,hM1,Mem.size_push,hb3]
 have hs2:M2.size=M.size+2:=by rw[hM2,hM1,Mem.size_push,Mem.size_push]
 have mo2:More M M2:=by rw[hM2,hM1];exact(More.push _ _).trans (More.push _ _)
 have g3:M2.get b3=some (.cells false s1 (Qg h (.slice a n c))):=by
  rw[hM2,Mem.get_push_old (by rw[←hb4];omega),hM1,hb3,Mem.get_push_new]
 have g4:M2.get b4=some (.cells false s1 (Qg noHead (.slice none 0 0))):=by rw[hM2,hb4,Mem.get_push_new]
 refine J0 (R2 @bx @hal ?_)
 rw[←hM1,←hM2,←hb3,←hb4]
 refine J0 (R6 @g3 @row7 @halH @Mem.get_push_new @agg7 @put7 ?_)
 obtain⟨b5,hb5⟩:∃b,b=M2.size:=⟨_,rfl⟩
 obtain⟨M3,hM3⟩:∃M3,M3=(M2.push (.cells false s2 noHead.cells)).set M2.size (some (.cells false s2 h.cells)):=⟨_,rfl⟩
 rw[←hM3,←hb5]
 have g5:M3.get b5=some (.cells false s2 h.cells):=by rw[hM3,hb5];exact Mem.get_set_same (Mem.get_push_new _ _) _
 have old:∀b x,M2.get b=some x→M3.get b=some x:=fun b x hb=>by
  have:=Mem.get_lt hb
  rw[hM3,Mem.get_set_ne (by omega),Mem.get_push_old this];exact hb
 have mo3:More M M3:=by rw[hM3];exact(mo2.pushed _).setNew (by omega) _
 have hkv:keysV secret []=.agg #[.string (str (Sha.encKey secret [])),.string (str (Sha.macKey secret [])),.string (str (Sha.headKey secret))]:=rfl
 have hfld:vField qc 94 (some (.agg #[.string (str (Sha.encKey secret [])),.string (str (Sha.macKey secret [])),.string (str (Sha.headKey secret))])) 2=some (.string (str (Sha.headKey secret))):=by rfl
 have e0:(⟨#[]⟩:ByteArray)=str []:=rfl
 refine J0 (D1 5 @e0 ?_)
 refine⟨by kernel_rfl,_,rkeys_at secret [] hsec (by decide) _,?_⟩
 rw[hkv]
 refine⟨by decide,?_⟩
 refine S3 @hfld @g5 @rowH ?_
 refine⟨by kernel_rfl,_,rfields_at h h1 h2 h3 h4 hs hr _,?_⟩
 refine⟨by decide,?_⟩
 refine S0 ?_
 refine⟨by kernel_rfl,_,rtag_at _ (str (Sha.headKey secret)) h.fields (by rw[str_size];omega) (by rw[fields_size];omega),?_⟩
 rintro _ M9 ⟨rfl,e9⟩;replace e9:=e9.symm;subst e9
 rw[show(str (Sha.headKey secret)).data.toList=Sha.headKey secret from rfl,←hT]
 simp only[zZ,reduceIte,yQ,yW,yX,yZ,yJ,yK,yV,zDk,Jc,Jb,Ja,J9,XQ,g5,putT]
 obtain⟨M4,hM4⟩:∃M4,M4=M3.set b5 (some (.cells false s2 ({ h with tag:=str T }:Header).cells)):=⟨_,rfl⟩
 rw[←hM4]
 have g54:M4.get b5=some (.cells false s2 ({ h with tag:=str T }:Header).cells):=by rw[hM4];exact Mem.get_set_same g5 _
 have g34:M4.get b3=some (.cells false s1 (Qg h (.slice a n c))):=by rw[hM4,Mem.get_set_ne (by omega)];exact old _ _ g3
 have g44:M4.get b4=some (.cells false s1 (Qg noHead (.slice none 0 0))):=by rw[hM4,Mem.get_set_ne (by omega)];exact old _ _ g4
 have mo4:More M M4:=by rw[hM4];exact mo3.setNew (by omega) _
 refine J0 (R8 @g54 @rowH @g34 @k7 @hbd @g44 @agg8 @put8 ?_)
 have g45:=Mem.get_set_same g44 (some (.cells false s1 (Qg { h with tag:=str T } (.slice a n c))))
 refine T3 @Q9 @g45 @row8 ?_
 exact⟨_,Thin.refl _,mo4.setNew (by omega) _⟩
theorem sealed_succ(enc mac s:List UInt8)(i:Nat):((qq i).map fun i=>sealV enc mac i (Qy s i))++[sealV enc mac i (Qy s i)]=(qq (i+1)).map fun i=>sealV enc mac i (Qy s i):=by
 rw[qt,qy]
 rfl
theorem of_spec(secret salt:List UInt8)(id:Int)(s:List UInt8)(raw:Int)(hsec:secret.length≤1000000)(hsalt:salt.length=16)(hid:1≤id∧id≤4294967295)(h1:1≤s.length)(h2:s.length≤49152)(hraw:1≤raw∧raw≤134217728)(M:Mem):
 Abs.Spec qc 129 [.string (str secret),.string (str salt),.int .i64 id,.string (str s),.int .i64 raw] M fun u M'=>∃V,u=.agg (Qg (Vh secret salt id s raw).head V).toArray∧QD M.size M' V (Vh secret salt id s raw).blocks∧More M M':=by
 obtain⟨enc,henc⟩:∃e,e=Sha.encKey secret salt:=⟨_,rfl⟩
 obtain⟨mac,hmac⟩:∃e,e=Sha.macKey secret salt:=⟨_,rfl⟩
 obtain⟨hk,hhk⟩:∃e,e=Sha.headKey secret:=⟨_,rfl⟩
 have el:enc.length=32:=by rw[henc];exact encKey_len32 _ _
 have ml:mac.length=32:=by rw[hmac];exact macKey_len32 _ _
 have hkv:keysV secret salt=.agg #[.string (str enc),.string (str mac),.string (str hk)]:=by rw[henc,hmac,hhk];rfl
 obtain⟨nb,hnb⟩:∃n,n=(s.length+191)/192:=⟨_,rfl⟩
 have nb256:nb≤256:=by omega
 obtain⟨S,hS⟩:∃S:Nat→List (List UInt8),S=fun i=>(qq i).map fun i=>sealV enc mac i (Qy s i):=⟨_,rfl⟩
 have hSn:∀i,(S i).length=i:=fun i=>by rw[hS];simp
 have hSs:∀i,S i++[sealV enc mac i (Qy s i)]=S (i+1):=fun i=>by rw[hS];exact sealed_succ enc mac s i
 have hS2:∀i,∀b∈S i,b.length=224:=fun i b hb=>by
  rw[hS]at hb
  obtain⟨j,_,rfl⟩:=qz.1 hb
  exact sealV_len _ _ _ _
 have hSb:(Vh secret salt id s raw).blocks=S nb:=by rw[hS,henc,hmac,hnb];rfl
 have cl:(UR s).length=nb:=by rw[hnb];simp[UR]
 have hca:∀i,i<nb→(UR s)[i]?=some (Qy s i):=fun i hi=>by
  unfold UR
  rw[qu,List.getElem?_range (by omega)];rfl
 have hbs:JA (str s)=s.length:=rfl
 refine WM Tryz.func129 Tryz.results129 Tryz.ntmps129 fun _=>?_
 have hal:Qd qc 61=some (.cells false (J6 qc 61) (Qg noHead (.slice none 0 0))):=al_Arc
 generalize J6 qc 61=s1 at hal
 have halK:Qd qc 94=some (.cells false (J6 qc 94) [.string ⟨#[]⟩,.string ⟨#[]⟩,.string ⟨#[]⟩]):=al_Keys
 generalize J6 qc 94=s2 at halK
 have hbd0:Qo qc 61 []=some (.agg (Qg noHead (.slice none 0 0)).toArray):=by kernel_rfl
 have hbd:∀(h:Header)(a:Option Addr)(n c:Nat),Qo qc 61 [(0,.agg h.cells.toArray),(1,.slice a n c)]=some (.agg (Qg h (.slice a n c)).toArray):=fun h a n c=>by kernel_rfl
 have hbh:∀(id n b r:Int)(sl ro:ByteArray),Qo qc 33 [(0,.int .i64 id),(1,.string sl),(2,.int .i64 n),(3,.int .i64 b),(4,.int .i64 r),(5,.string ro)]=some (.agg (⟨id,sl,n,b,r,ro,⟨#[]⟩⟩:Header).cells.toArray):=fun _ _ _ _ _ _=>by kernel_rfl
 have row8:∀s (h:Header) V,Jv 8 0 (some (.cells false s (Qg h V)))=some (.agg (Qg h V).toArray):=fun _ _ _=>rfl
 have k7:∀s (h:Header) V,cellIn 7 (some (.cells false s (Qg h V)))=some V:=fun _ _ _=>rfl
 have agg8:∀(h:Header) V,(Value.agg (Qg h V).toArray).cells.toList=Qg h V:=fun _ _=>rfl
 have put8:∀(M0:Mem)(b:Nat)(x y:Header) V a n c,Ji 8 M0 b 0 (Qg y (.slice a n c)) (some (.cells false s1 (Qg x V)))=some (M0.set b (some (.cells false s1 (Qg y (.slice a n c))))):=fun _ _ _ _ _ _ _ _=>rfl
 have putV:∀(M0:Mem)(b:Nat)(x:Header) V a n c,Ji 1 M0 b 7 [.slice a n c] (some (.cells false s1 (Qg x V)))=some (M0.set b (some (.cells false s1 (Qg x (.slice a n c))))):=fun _ _ _ _ _ _ _=>rfl
 have putK:∀(M0:Mem)(b:Nat)(x y z:ByteArray),Ji 3 M0 b 0 [.string (str enc),.string (str mac),.string (str hk)] (some (.cells false s2 [.string x,.string y,.string z]))=some (M0.set b (some (.cells false s2 [.string (str enc),.string (str mac),.string (str hk)]))):=fun _ _ _ _ _=>rfl
 have k3:∀s,Jv 3 0 (some (.cells false s [.string (str enc),.string (str mac),.string (str hk)]))=some (.agg #[.string (str enc),.string (str mac),.string (str hk)]):=fun _=>rfl
 obtain⟨b10,hb10⟩:∃b,b=M.size:=⟨_,rfl⟩
 obtain⟨M1,hM1⟩:∃M1,M1=M.push (.cells false s1 (Qg noHead (.slice none 0 0))):=⟨_,rfl⟩
 have g10:M1.get b10=some (.cells false s1 (Qg noHead (.slice none 0 0))):=by rw[hM1,hb10,Mem.get_push_new]
 have mo1:More M M1:=by rw[hM1];exact More.push _ _
 have hs1:M1.size=M.size+1:=by rw[hM1,Mem.size_push]
 refine J0 (R1 @hal ?_)
 rw[←hM1,←hb10]
 refine J0 (R0 ?_)
 refine⟨by kernel_rfl,_,rkeys_at secret salt hsec (by omega) _,?_⟩
 rintro _ M9 ⟨rfl,e9⟩;replace e9:=e9.symm;subst e9
 rw[hkv]
 refine S4 @halK @keys_cells @Mem.get_push_new @putK ?_
 obtain⟨b11,hb11⟩:∃b,b=M1.size:=⟨_,rfl⟩
 obtain⟨M2,hM2⟩:∃M2,M2=(M1.push (.cells false s2 [.string ⟨#[]⟩,.string ⟨#[]⟩,.string ⟨#[]⟩])).set M1.size (some (.cells false s2 [.string (str enc),.string (str mac),.string (str hk)])):=⟨_,rfl⟩
 rw[←hM2,←hb11]
 have g11:M2.get b11=some (.cells false s2 [.string (str enc),.string (str mac),.string (str hk)]):=by rw[hM2,hb11];exact Mem.get_set_same (Mem.get_push_new _ _) _
 have old2:∀b x,M1.get b=some x→M2.get b=some x:=fun b x hb=>by
  have:=Mem.get_lt hb
  rw[hM2,Mem.get_set_ne (by omega),Mem.get_push_old this];exact hb
 have hs2:M2.size=M.size+2:=by rw[hM2,Mem.size_set,Mem.size_push,hs1]
 refine J0 (R0 ?_)
 refine⟨by kernel_rfl,_,rsplit_spec s (by omega) M2,?_⟩
 rintro V12 M3 ⟨hown12,mo3⟩
 obtain⟨a12,c12,rfl⟩:=hown12.len
 have hrd12:=hown12.strs
 rw[cl]at hown12 ⊢
 have g113:=mo3.get _ _ g11
 have g103:=mo3.get _ _ (old2 _ _ g10)
 have hs3:=mo3.size
 refine S0 ?_
 refine J0 (R5 @hbd0 @hal @Mem.get_push_new @agg8 @put8 ?_)
 obtain⟨b13,hb13⟩:∃b,b=M3.size:=⟨_,rfl⟩
 obtain⟨M4,hM4⟩:∃M4,M4=(M3.push (.cells false s1 (Qg noHead (.slice none 0 0)))).set M3.size (some (.cells false s1 (Qg noHead (.slice none 0 0)))):=⟨_,rfl⟩
 rw[←hM4,←hb13]
 have g13:M4.get b13=some (.cells false s1 (Qg noHead (.slice none 0 0))):=by rw[hM4,hb13];exact Mem.get_set_same (Mem.get_push_new _ _) _
 have old4:∀b x,M3.get b=some x→M4.get b=some x:=fun b x hb=>by
  have:=Mem.get_lt hb
  rw[hM4,Mem.get_set_ne (by omega),Mem.get_push_old this];exact hb
 have hs4:M4.size=M3.size+1:=by rw[hM4,Mem.size_set,Mem.size_push]
 have g104:=old4 _ _ g103
 have g114:=old4 _ _ g113
 have hrd4:=hrd12.same old4
 have oldM:∀b x,M.get b=some x→M4.get b=some x:=fun b x hb=>old4 b x (mo3.get b x (old2 b x (mo1.get b x hb)))
 refine J0 (J0 (R0 ?_))
 refine J8 (Jt (fun j f M'=>∃(i:Nat)(a:Option Addr)(c:Nat),j=nb-i∧f=[(0,.string (str secret)),(1,.string (str salt)),(2,.int .i64 id),(3,.string (str s)),(4,.int .i64 raw),(10,.pointer (some ⟨b10,0,none⟩)),(11,.pointer (some ⟨b11,0,none⟩)),(12,.slice a12 nb c12),(13,.pointer (some ⟨b13,0,none⟩)),(14,.int .i64 (i:Nat))]∧i≤nb∧
  QD M4.size M' (.slice a i c) (S i)∧M'.get b13=some (.cells false s1 (Qg noHead (.slice a i c)))∧(∀b x,b<M4.size→b≠b13→M4.get b=some x→M'.get b=some x)∧M4.size≤M'.size) nb ?_ ?_)
 ·refine JK [0,1,2,3,4,10,11,12,13,14] ?_
  exact⟨M4,Thin.refl _,0,none,0,rfl,rfl,by omega,by rw[hS];exact OwnL.nil _ _,g13,fun _ _ _ _ h=>h,qx _⟩
 ·rintro j f M' ⟨i,a,c,rfl,rfl,hi,hown,hg13,hold,hsz⟩
  refine J0 (J0 (R0 ?_))
  refine CC (decide ((i:Int)<(nb:Int))) (fun hq=>J3 ?_) (fun hq=>Jp ?_)
  ·have hin:i<nb:=by have:=of_decide_eq_true hq;omega
   have w1:IntKind.i64.wrap ((i:Int)+1)=((i+1:Nat):Int):=by rw[Xl (by omega) (by omega)];omega
   obtain⟨a',c',e1,_,_,hrdi⟩:=hrd12
   cases e1
   obtain⟨bC,oC,roC,csC,rfl,hgC3,hcC⟩:=hrdi i _ (hca i hin)
   have hgC:=old4 _ _ hgC3
   have hgC':=hold bC _ (Mem.get_lt hgC) (by have:=Mem.get_lt hgC3;omega) hgC
   have cC:cellIn (oC+i) (some (.cells roC 1 csC))=some (.string (str (Qy s i))):=hcC
   have g11':=hold b11 _ (Mem.get_lt g114) (by omega) g114
   have z0:(0:Int)≤(i:Int):=by omega
   have z1:(i:Int)<((nb:Nat):Int):=by omega
   have sa:=seal_at enc mac hk (Qy s i) i el ml (by omega) (chunkAt_len s i) M'
   have nw:=Vb (sealV enc mac i (Qy s i))
   obtain⟨M5,V5,ap5,hb5,hown5,hs5,hold5⟩:=strapp hown hsz (by rw[hSn];omega) (sealV enc mac i (Qy s i))
   rw[hSs]at hown5
   obtain⟨a5,c5,hV5⟩:=hown5.len
   rw[hSn]at hV5
   subst hV5
   have hne:QA (.slice a i c)≠some b13:=fun e=>by have:=(hown.live e).1;have:=Mem.get_lt g13;omega
   have hg135:=hold5 b13 _ hne hg13
   have hne5:QA (.slice a5 (i+1) c5)≠some b13:=fun e=>by have:=(hown5.live e).1;have:=Mem.get_lt g13;omega
   obtain⟨M6,hM6⟩:∃M6,M6=M5.set b13 (some (.cells false s1 (Qg noHead (.slice a5 (i+1) c5)))):=⟨_,rfl⟩
   refine S0 ?_
   refine J0 (J8 (J0 (D8 11 @g11' @k3 @z0 @z1 @and_self @hgC' @qe @cC ?_)))
   refine⟨by kernel_rfl,_,sa,?_⟩
   refine⟨by decide,?_⟩
   refine S0 ?_
   refine J1 ?_
   simp only[zZ,reduceIte,yQ,yW,yX,yZ,yJ,yK,yV,zDk,Jc,Jb,Ja,J9,XQ,hg13,k7,nw,ap5,hg135,putV]
   rw[←hM6]
   refine R1 @w1 ?_
   refine JK [0,1,2,3,4,10,11,12,13,14] ?_
   refine⟨M6,Thin.refl _,nb-(i+1),⟨i+1,a5,c5,rfl,rfl,by omega,hown5.same fun b x hb hx=>?_,by rw[hM6];exact Mem.get_set_same hg135 _,fun b x hbl hbn hx=>?_,by rw[hM6,Mem.size_set];omega⟩,by omega⟩
   ·rw[hM6,Mem.get_set_ne (show b13≠b from fun e=>hne5 (by rw[hb,e]))];exact hx
   ·rw[hM6,Mem.get_set_ne (Ne.symm hbn)]
    exact hold5 b x (fun e=>by have:=(hown.live e).1;omega) (hold b x hbl hbn hx)
  ·have hin:i=nb:=by have:=of_decide_eq_false hq;omega
   subst hin
   obtain⟨N,pe,pN⟩:=rroot_exact (S i) (by rw[hSn];omega) (fun b hb=>by rw[hS2 i b hb];decide) M' _ hown.strs
   have mo5:More M' (M'.app N):=⟨fun b x hb=>ZO M' N b x hb,by rw[UU];omega⟩
   obtain⟨H,hH⟩:∃H:Header,H=⟨id,str salt,(i:Nat),(s.length:Nat),raw,str (rootV (S i)),⟨#[]⟩⟩:=⟨_,rfl⟩
   have hHh:H=headOf0 secret salt id s raw (S i):=by rw[hH];unfold headOf0;rw[hSn]
   have hfin:(Vh secret salt id s raw).head={ H with tag:=str (Sha.tag (Sha.headKey secret) H.fields.data.toList) }:=by
    rw[hHh,←hSb]
    rfl
   have rl:=rootV_len (S i)
   have sg:=fun a n c m=>signed_spec secret hsec H (by rw[hH];exact⟨by show(0:Int)≤id;omega,hid.2⟩) (by rw[hH];exact⟨by show(0:Int)≤(i:Nat);omega,by show((i:Nat):Int)≤100000;omega⟩) (by rw[hH];exact⟨by show(0:Int)≤(s.length:Nat);omega,by show((s.length:Nat):Int)≤100000;omega⟩) (by rw[hH];exact⟨by show(0:Int)≤raw;omega,by show raw≤1000000000;omega⟩) (by rw[hH];show(str salt).size≤_;rw[str_size];omega) (by rw[hH];show(str (rootV (S i))).size≤_;rw[str_size];omega) a n c m
   have hbH:=hbh id (i:Nat) (s.length:Nat) raw (str salt) (str (rootV (S i)))
   rw[←hH]at hbH
   refine S0 ?_
   refine J0 (CW_drawG hmix 15 (by kernel_rfl) (by kernel_rfl) ?_)
   simp only[zZ,reduceIte,yQ,yW,yX,yZ,yJ,yK,yV,zDk,Jc,Jb,Ja,J9,XQ,XN,JM,Qc,QB,isVal,sGuardedV,JJ,Q1,yY,Nat.sub_zero,hbs,hg13,k7]
   refine⟨by kernel_rfl,_,N,pe,pN,?_⟩
   obtain⟨M7,hM7⟩:∃M7,M7=M'.app N:=⟨_,rfl⟩
   rw[←hM7]at mo5
   simp only[zZ,reduceIte,yQ,yW,yX,yZ,yJ,yK,yV,zDk,Jc,Jb,Ja,J9,XQ,XN,JM,Qc,QB,isVal,sGuardedV,JJ,Q1,yY,Nat.sub_zero,hbH,hg13,k7,hbd]
   rw[←hM7]
   refine⟨by kernel_rfl,_,sg _ _ _ M7,?_⟩
   rintro _ M8 ⟨rfl,mo8⟩
   rw[←hfin]
   have g107:=mo8.get _ _ (mo5.get _ _ (hold b10 _ (Mem.get_lt g104) (by omega) g104))
   simp only[zZ,reduceIte,yQ,yW,yX,yZ,yJ,yK,yV,zDk,Jc,Jb,Ja,J9,XQ,XN,JM,Qc,QB,isVal,sGuardedV,JJ,Q1,yY,Nat.sub_zero,g107,agg8,put8]
   have g108:=Mem.get_set_same g107 (some (.cells false s1 (Qg (Vh secret salt id s raw).head (.slice a i c))))
   refine T3 @Q9 @g108 @row8 ?_
   have hownF:QD M4.size M8 (.slice a i c) (S i):=hown.same fun b x _ hx=>mo8.get b x (mo5.get b x hx)
   refine⟨_,Thin.refl _,.slice a i c,rfl,?_,?_⟩
   ·rw[hSb]
    refine(hownF.same fun b x hb hx=>?_).le (by omega)
    rw[Mem.get_set_ne (fun e=>by have:=(hownF.live hb).1;have:=Mem.get_lt g104;omega)];exact hx
   ·refine⟨fun b x hb=>?_,by rw[Mem.size_set];have:=mo8.size;have:=mo5.size;omega⟩
    have hbl:=Mem.get_lt hb
    rw[Mem.get_set_ne (by omega)]
    exact mo8.get b x (mo5.get b x (hold b x (by omega) (by omega) (oldM b x hb)))
end Go.Proofs.YteccmcpaheepcaaGreatDoor
namespace Go.Proofs.YteccmcpaheepcaaGreatDoor
open Go Go.RowKit Abs
def saltL:List UInt8:=[115,97,108,116,4,5,6,7,8,9,10,11,12,13,14,15]
theorem salt_len(j:Nat)(h:j≤12):(J5 (saltL.take (4+j))).length=4+j:=by
 unfold J5 saltL;rw[qk,qv];simp only[qr,qm];omega
theorem salt_next(j:Nat)(h:j<12):J5 (saltL.take (4+j))++[.int .u8 (((4+j:Nat):Int)%256)]=J5 (saltL.take (4+(j+1))):=by
 rcases j with _|_|_|_|_|_|_|_|_|_|_|_|j<;>first|rfl|omega
theorem salt_at(m:Mem):Abs.Spec qc 130 [.string (str [115,97,108,116])] m fun u M=>u=.string (str saltL)∧M=m:=by
 refine Abs.Spec.of_empty (by intro x hx;simp at hx;subst hx;rfl) rfl ?_ m
 refine Abs.Spec.walk Tryz.func130 (by rfl) _ Tryz.results130 _ Tryz.ntmps130 (by simp) ?_
 refine J4 (J2 ?_)
 simp only[zS,reduceIte,yQ,yW,yX,yZ,yJ,yK,yV]
 refine J4 (J2 ?_)
 simp only[zS,reduceIte,yQ,yW,yX,yZ,yJ,yK,yV,zT,Un [115,97,108,116] (by decide)]
 have h0:Sl ((⟨[]⟩:Mem).push (.cells false 1 (J5 [115,97,108,116]))) (.slice (some ⟨(⟨[]⟩:Mem).size,0,none⟩) 4 4) (J5 (saltL.take (4+0))):=Sl.block (by simp[J5,saltL]) (Mem.get_push_new _ _)
 refine J4 (Js (Qu [3] (fun k f m'=>∃(j:Nat)(v:Value),j+k=12∧f=[(3,v)]∧Sl m' v (J5 (saltL.take (4+j)))∧Grows ⟨[]⟩ m'∧(∀g l c,v=.slice (some ⟨g,0,none⟩) l c→(⟨[]⟩:Mem).size≤g)) 12 ?_ ?_))
 ·simp only[zS,reduceIte,yQ,yW,yX,yZ,yJ,yK,yV]
  exact⟨0,_,by omega,rfl,h0,(Grows.refl _).push _,fun g l c e=>by cases e;exact qx _⟩
 ·rintro k f m' ⟨j,v,hj,rfl,hv,hgr,hnew⟩
  have hl:=salt_len j (by omega)
  obtain⟨g,hvg,hg⟩:=hv.at (by omega)
  rw[hl]at hvg
  subst hvg
  refine J4 (J4 (J2 ?_))
  simp only[zS,reduceIte,yQ,yW,yX,yZ,yJ,yK,yV,zT]
  refine JZ (decide (((4+j:Nat):Int)<16)) (by rfl) (fun hc=>Q2 ?_) (fun hc=>Qz ?_)
  ·simp only[zS,reduceIte,yQ,yW,yX,yZ,yJ,yK,yV]
   have hlt:j<12:=by have:=of_decide_eq_true hc;omega
   obtain⟨s',m2,happ,hs',hgr',hnew'⟩:=hv.app_u8 hgr hnew (.int .u8 (((4+j:Nat):Int)%256)) (by rw[hl];omega)
   rw[salt_next j hlt]at hs'
   refine Js (J2 ?_)
   simp only[zS,reduceIte,yQ,yW,yX,yZ,yJ,yK,yV,zT,wrap_u8,happ]
   exact⟨k-1,⟨j+1,s',by omega,rfl,hs',hgr',hnew'⟩,by omega⟩
  ·simp only[zS,reduceIte,yQ,yW,yX,yZ,yJ,yK,yV]
   have hje:j=12:=by have:=of_decide_eq_false hc;omega
   subst hje
   have e:JY qc m'.get 110 (.slice (some ⟨g,0,none⟩) 16 16) none (some (.int .i64 16))=some (.slice (some ⟨g,0,none⟩) 16 16):=by
    unfold JY X3
    simp only[qw,Zn,Xu,hg]
    rfl
   have e2:Xs qc m'.get 110 9 (.slice (some ⟨g,0,none⟩) 16 16)=some (.string (str saltL)):=to_str hg rfl
   refine J4 (J2 ?_)
   simp only[zS,reduceIte,yQ,yW,yX,yZ,yJ,yK,yV,zT,e,e2]
   refine X4 ?_
   simp only[zS,reduceIte,yQ,yW,yX,yZ,yJ,yK,yV,sAnswer,sAnswer.sRes]
end Go.Proofs.YteccmcpaheepcaaGreatDoor
namespace Go.Proofs.YteccmcpaheepcaaGreatDoor
open Go.RowKit Abs
def arcV(x:Arc×Value):List Value:=Qg x.1.head x.2
def ArcsOwn(k:Nat)(M:Mem)(V:Value)(LA:List (Arc×Value)):Prop:=OwnL arcV 8 k M V LA∧∀x∈LA,QD k M x.2 x.1.blocks
def Zv(t:List UInt8):List UInt8:=if t.length=0 then [120]else t.take 900
def VS(sec:List UInt8)(T:List (List UInt8))(i:Nat):List Arc:=(qq i).map fun j=>Vh sec saltL ((1+j:Nat):Int) (Zv (T.getD j [])) 1000
def Uo(sec:List UInt8)(T:List (List UInt8)):List Arc:=VS (sec.take 100) T (min T.length 4)
theorem cutText_len(t:List UInt8):1≤(Zv t).length∧(Zv t).length≤900:=by
 unfold Zv
 split
 ·exact⟨by decide,by decide⟩
 ·rw[qv];omega
theorem made_succ(sec:List UInt8)(T:List (List UInt8))(i:Nat):VS sec T i++[Vh sec saltL ((1+i:Nat):Int) (Zv (T.getD i [])) 1000]=VS sec T (i+1):=by
 unfold VS
 rw[qt,qy]
 rfl
theorem made_ok{sec:List UInt8}{T:List (List UInt8)}{a:Arc}(h:a∈Uo sec T):ArcOk (Sha.headKey (sec.take 100)) a∧1≤a.head.id∧a.head.id≤4∧a.blocks.length≤5:=by
 unfold Uo VS at h
 obtain⟨j,hj,rfl⟩:=qz.1 h
 rw[List.mem_range]at hj
 have hc:=cutText_len (T.getD j [])
 refine⟨arcOf_ok _ _ _ _ _ (by decide) (by omega) hc.1 (by omega) (by decide),?_,?_,?_⟩
 ·rw[arcOf_id];omega
 ·rw[arcOf_id];omega
 ·rw[arcOf_len];omega
theorem Arc_zero:Tryz.t61.zero=some (.agg (Qg noHead (.slice none 0 0)).toArray):=by kernel_rfl
theorem Arc_bytes:Tryz.t61.bytes≤1000:=by decide
theorem new_arc1(h:Header)(a:Option Addr)(n c:Nat):Jx qc 39 1 [(0,.agg (Qg h (.slice a n c)).toArray)]=some (.cells false 8 (Qg h (.slice a n c))):=by kernel_rfl
theorem arcapp{k:Nat}{M:Mem}{V:Value}{L:List (Arc×Value)}(h:OwnL arcV 8 k M V L)(hk:k≤M.size)(hl:L.length≤1000000)(x:Arc×Value):
 ∃M' V',JN qc (M.push (.cells false 8 (arcV x))) 39 39 V (.slice (some ⟨M.size,0,none⟩) 1 1)=some (V',M')∧QA V'=some (M.size+1)∧OwnL arcV 8 k M' V' (L++[x])∧
  M'.size=M.size+2∧(∀b y,QA V≠some b→M.get b=some y→M'.get b=some y):=
 oapp Tryz.underlying39 inf_Arc Arc_zero sz_Arc rfl Tryz.underlying39 (fun _=>rfl) Arc_bytes h hk hl x 8
theorem ArcsOwn.same{k:Nat}{M M':Mem}{V:Value}{L:List (Arc×Value)}(h:ArcsOwn k M V L)(hs:∀b x,M.get b=some x→M'.get b=some x):ArcsOwn k M' V L:=
 ⟨h.1.same fun b x _ hx=>hs b x hx,fun x hx=>(h.2 x hx).same fun b y _ hy=>hs b y hy⟩
theorem made_spec(sec:List UInt8)(hsec:sec.length≤1000000)(T:List (List UInt8))(hT:T.length≤4000000000000000000)(hTs:∀t∈T,t.length≤4000000000000000000)(M:Mem)(v:Value)(h:StrsRd M v T):
 Abs.Spec qc 53 [.string (str sec),v] M fun u M'=>∃LA,LA.map Prod.fst=Uo sec T∧ArcsOwn M.size M' u LA∧More M M':=by
 obtain⟨a,c,rfl,hc2,hnil,hrd⟩:=h
 have hbs:∀t,JA (str t)=t.length:=fun _=>rfl
 have ex:(⟨#[120]⟩:ByteArray)=str [120]:=rfl
 have es:(⟨#[115,97,108,116]⟩:ByteArray)=str [115,97,108,116]:=rfl
 refine WM Tryz.func53 Tryz.results53 Tryz.ntmps53 fun _=>?_
 refine J0 (R0 ?_)
 refine J0 (R0 ?_)
 obtain⟨S,hS⟩:∃S,S=sec.take 100:=⟨_,rfl⟩
 have hSl:S.length≤100:=by rw[hS,qv];omega
 refine QR (fun f M'=>f=[(0,.string (str S)),(1,.slice a T.length c),(5,.slice none 0 0)]∧M'=M) ?_ ?_
 ·refine J0 (R1 @hbs ?_)
  refine CC (decide (((sec.length:Nat):Int)>100)) (fun hq=>J1 ?_) (fun hq=>J3 ?_)
  ·have hq:=of_decide_eq_true hq
   have sl:=fun get=>Zh get (str sec) 100 (by rw[str_size];omega)
   rw[show(str sec).data.toList=sec from rfl,←hS]at sl
   have sl2:∀get,JY qc get 9 (.string (str sec)) none (some (.int .i64 100))=some (.string (str S)):=sl
   refine S1 @sl2 ?_
   refine JK [0,1,5] ?_
   exact⟨M,Thin.refl _,rfl⟩
  ·have hq:=of_decide_eq_false hq
   refine JK [0,1,5] ?_
   exact⟨M,Thin.refl _,by rw[hS,qp (by omega)],rfl⟩
 rintro _ M9 ⟨rfl,e9⟩;replace e9:=e9.symm;subst e9
 refine J0 (J0 (R0 ?_))
 refine J8 (Jt (fun j f M'=>∃(i:Nat)(V:Value)(LA:List (Arc×Value)),j=4-i∧f=[(0,.string (str S)),(1,.slice a T.length c),(5,V),(6,.int .i64 (i:Nat))]∧i≤4∧i≤T.length∧LA.map Prod.fst=VS S T i∧
  ArcsOwn M.size M' V LA∧(∀b x,b<M.size→M.get b=some x→M'.get b=some x)∧M.size≤M'.size) 4 ?_ ?_)
 ·refine JK [0,1,5,6] ?_
  exact⟨M,Thin.refl _,0,_,[],rfl,rfl,by omega,by omega,rfl,⟨OwnL.nil _ _,fun x hx=>by cases hx⟩,fun _ _ _ h=>h,qx _⟩
 ·rintro j f M' ⟨i,V,LA,rfl,rfl,hi,hiT,hLA,hown,hold,hsz⟩
  have fin:i=min T.length 4→Uo sec T=LA.map Prod.fst:=fun e=>by rw[hLA,Uo,←hS,←e]
  have hexit:i=min T.length 4→∃LA,LA.map Prod.fst=Uo sec T∧ArcsOwn M.size M' V LA∧More M M':=fun e=>⟨LA,(fin e).symm,hown,fun b x hb=>hold b x (Mem.get_lt hb) hb,hsz⟩
  refine J0 (J0 (J1 ?_))
  cases q1:decide ((i:Int)<((T.length:Nat):Int))with
  |false=>
   have hq:=of_decide_eq_false q1
   refine S1 @q1 ?_
   refine CF (Jp ?_)
   refine S0 ?_
   refine J0 (R0 ?_)
   refine T0 ?_
   exact⟨M',Thin.refl _,hexit (by omega)⟩
  |true=>
  have hq:=of_decide_eq_true q1
  cases q2:decide ((i:Int)<4)with
  |false=>
   have hq2:=of_decide_eq_false q2
   refine S2 @q1 @q2 ?_
   refine CF (Jp ?_)
   refine S0 ?_
   refine J0 (R0 ?_)
   refine T0 ?_
   exact⟨M',Thin.refl _,hexit (by omega)⟩
  |true=>
  have hq2:=of_decide_eq_true q2
  obtain⟨t,ht⟩:∃t,T[i]?=some t:=⟨_,qj (by omega)⟩
  have htl:=hTs t (qC ht)
  have htd:T.getD i []=t:=by rw[List.getD_eq_getElem?_getD,ht];rfl
  obtain⟨bC,oC,roC,csC,rfl,hgC,hcC⟩:=hrd i t ht
  have hgC':=hold bC _ (Mem.get_lt hgC) hgC
  have cC:cellIn (oC+i) (some (.cells roC 1 csC))=some (.string (str t)):=hcC
  have z0:(0:Int)≤(i:Int):=by omega
  have w1:IntKind.i64.wrap ((i:Int)+1)=((i+1:Nat):Int):=by rw[Xl (by omega) (by omega)];omega
  have w2:IntKind.i64.wrap (1+(i:Int))=((1+i:Nat):Int):=by rw[Xl (by omega) (by omega)];omega
  refine S2 @q1 @q2 ?_
  refine CT (J3 ?_)
  refine S0 ?_
  refine J0 (J8 (J0 (R6 @z0 @hq @and_self @hgC' @qe @cC ?_)))
  refine QR (fun f M2=>f=[(0,.string (str S)),(1,.slice (some ⟨bC,oC,none⟩) T.length c),(5,V),(6,.int .i64 (i:Nat)),(7,.string (str (t.take 900)))]∧M2=M') ?_ ?_
  ·refine J0 (R1 @hbs ?_)
   refine CC (decide (((t.length:Nat):Int)>900)) (fun hq=>J1 ?_) (fun hq=>J3 ?_)
   ·have hq:=of_decide_eq_true hq
    have sl:=fun get=>Zh get (str t) 900 (by rw[str_size];omega)
    have sl2:∀get,JY qc get 9 (.string (str t)) none (some (.int .i64 900))=some (.string (str (t.take 900))):=sl
    refine S1 @sl2 ?_
    refine JK [0,1,5,6,7] ?_
    exact⟨M',Thin.refl _,rfl⟩
   ·have hq:=of_decide_eq_false hq
    refine JK [0,1,5,6,7] ?_
    exact⟨M',Thin.refl _,by rw[qp (by omega)],rfl⟩
  rintro _ M9 ⟨rfl,e9⟩;replace e9:=e9.symm;subst e9
  refine QR (fun f M2=>f=[(0,.string (str S)),(1,.slice (some ⟨bC,oC,none⟩) T.length c),(5,V),(6,.int .i64 (i:Nat)),(7,.string (str (Zv t)))]∧M2=M') ?_ ?_
  ·refine J0 (R1 @hbs ?_)
   have tl:(t.take 900).length=min 900 t.length:=qv
   refine CC ((((t.take 900).length:Nat):Int)==0) (fun hq=>J1 ?_) (fun hq=>J3 ?_)
   ·have hq:(((t.take 900).length:Nat):Int)=0:=by simpa using hq
    refine S1 @ex ?_
    refine JK [0,1,5,6,7] ?_
    exact⟨M',Thin.refl _,by unfold Zv;rw[if_pos (by omega)],rfl⟩
   ·have hq:(((t.take 900).length:Nat):Int)≠0:=by simpa using hq
    refine JK [0,1,5,6,7] ?_
    exact⟨M',Thin.refl _,by unfold Zv;rw[if_neg (by omega)],rfl⟩
  rintro _ M9 ⟨rfl,e9⟩;replace e9:=e9.symm;subst e9
  have ctl:=cutText_len t
  refine R1 @es ?_
  refine K1 @w2 (salt_at M') ?_
  refine⟨by kernel_rfl,_,of_spec S saltL ((1+i:Nat):Int) (Zv t) 1000 (by omega) (by decide) (by omega) ctl.1 (by omega) (by decide) M',?_⟩
  rintro _ M3 ⟨VB,rfl,hownB,mo3⟩
  obtain⟨aB,cB,rfl⟩:=hownB.len
  obtain⟨A,hA⟩:∃A,A=Vh S saltL ((1+i:Nat):Int) (Zv t) 1000:=⟨_,rfl⟩
  rw[←hA]at hownB ⊢
  have hown3:=hown.same mo3.get
  have nw:=new_arc1 A.head aB A.blocks.length cB
  have hLl:LA.length=i:=by have:=congrArg List.length hLA;rw[qk]at this;rw[this];simp[VS]
  obtain⟨M4,V4,ap4,hb4,hown4,hs4,hold4⟩:=arcapp hown3.1 (by have:=mo3.size;omega) (by omega) (A,.slice aB A.blocks.length cB)
  have ap4':JN qc (M3.push (.cells false 8 (Qg A.head (.slice aB A.blocks.length cB)))) 39 39 V (.slice (some ⟨M3.size,0,none⟩) 1 1)=some (V4,M4):=ap4
  refine S2 @nw @ap4' ?_
  refine R1 @w1 ?_
  refine JK [0,1,5,6] ?_
  refine⟨_,Thin.refl _,4-(i+1),⟨i+1,V4,LA++[(A,.slice aB A.blocks.length cB)],rfl,rfl,by omega,by omega,?_,⟨hown4,fun x hx=>?_⟩,fun b y hbl hy=>hold4 b y (fun e=>by have:=(hown3.1.live e).1;omega) (mo3.get b y (hold b y hbl hy)),by have:=mo3.size;omega⟩,by omega⟩
  ·rw[qy,hLA,←made_succ,htd,hA];rfl
  ·have sep:∀b y,QD M.size M3 x.2 x.1.blocks→QA x.2=some b→M3.get b=some y→M4.get b=some y:=fun b y ho hb hy=>by
    refine hold4 b y (fun e=>?_) hy
    rcases hown3.1 with⟨_,h2⟩|⟨_,g,_,h2,hg⟩
    ·rw[h2]at e;cases e
    ·rw[h2]at e
     have eg:g=b:=Option.some.inj e
     subst eg
     rcases ho with⟨_,h4⟩|⟨h0,g',_,h4,hg'⟩
     ·rw[h4]at hb;cases hb
     ·rw[h4]at hb
      have eg':g'=g:=Option.some.inj hb
      subst eg'
      rw[hg]at hg'
      cases hg'
   rcases List.mem_append.1 hx with hx|hx
   ·have:=hown3.2 x hx
    exact this.same fun b y hb hy=>sep b y this hb hy
   ·simp only[List.mem_singleton]at hx
    subst hx
    have:=hownB.le (k':=M.size) hsz
    exact this.same fun b y hb hy=>sep b y this hb hy
end Go.Proofs.YteccmcpaheepcaaGreatDoor
