import Derived.Test.YthohbneadomgdaaGreatDoorVisi17
set_option linter.all false
set_option maxRecDepth 100000
set_option maxHeartbeats 16000000
open Nat renaming reduceLT→yQ,reduceEqDiff→yK,reduceAdd→yV,reduceSub→yY,reduceMul→yU
open Int renaming reduceToNat→yW,reduceLE→yX,reduceEq→yZ,reduceLT→yJ
open List renaming getElem?_eq_getElem→qc
open Int renaming toNat_natCast→qd
namespace Go.Proofs.YthohbneadomgdaaGreatDoor
open Go.RowKit Abs
theorem ch_i64(e f g:Nat)(he:e<4294967296)(hf:f<4294967296)(hg:g<4294967296):
 bits .xor .i64 (bits .and .i64 (e:Int) (f:Int)) (bits .and .i64 (IntKind.i64.wrap (4294967295-(e:Int))) (g:Int))=((Sha.ch e f g:Nat):Int):=by
 have E:IntKind.i64.wrap (4294967295-(e:Int))=((4294967295-e:Nat):Int):=by rw[wr (by omega) (by omega)];omega
 have I:e&&&f<4294967296:=Sha.and_lt he
 have h2:(4294967295-e)&&&g<4294967296:=Sha.and_lt (by omega)
 rw[E,QA _ _ (by omega) (by omega),QA _ _ (by omega) (by omega),XK _ _ (by omega) (by omega)]
 rfl
theorem big1_i64(e:Nat)(he:e<4294967296):bits .xor .i64 (bits .xor .i64 ((Sha.rotr e 6:Nat):Int) ((Sha.rotr e 11:Nat):Int)) ((Sha.rotr e 25:Nat):Int)=(Sha.big1 e:Nat):=by
 rw[xor3_i64 _ _ _ (Sha.rotr_lt he) (Sha.rotr_lt he) (Sha.rotr_lt he)];rfl
theorem big0_i64(e:Nat)(he:e<4294967296):bits .xor .i64 (bits .xor .i64 ((Sha.rotr e 2:Nat):Int) ((Sha.rotr e 13:Nat):Int)) ((Sha.rotr e 22:Nat):Int)=(Sha.big0 e:Nat):=by
 rw[xor3_i64 _ _ _ (Sha.rotr_lt he) (Sha.rotr_lt he) (Sha.rotr_lt he)];rfl
theorem big0_lt{a:Nat}(ha:a<4294967296):Sha.big0 a<4294967296:=Sha.xor_lt (Sha.xor_lt (Sha.rotr_lt ha) (Sha.rotr_lt ha)) (Sha.rotr_lt ha)
theorem big1_lt{a:Nat}(ha:a<4294967296):Sha.big1 a<4294967296:=Sha.xor_lt (Sha.xor_lt (Sha.rotr_lt ha) (Sha.rotr_lt ha)) (Sha.rotr_lt ha)
theorem ch_lt{e f g:Nat}(he:e<4294967296):Sha.ch e f g<4294967296:=Sha.xor_lt (Sha.and_lt he) (Sha.and_lt (by omega))
theorem maj_lt{a b c:Nat}(ha:a<4294967296)(hb:b<4294967296):Sha.maj a b c<4294967296:=Sha.xor_lt (Sha.xor_lt (Sha.and_lt ha) (Sha.and_lt ha)) (Sha.and_lt hb)
theorem maj_i64(a b c:Nat)(ha:a<4294967296)(hb:b<4294967296)(hc:c<4294967296):
 bits .xor .i64 (bits .xor .i64 (bits .and .i64 (a:Int) (b:Int)) (bits .and .i64 (a:Int) (c:Int))) (bits .and .i64 (b:Int) (c:Int))=(Sha.maj a b c:Nat):=by
 have I:a&&&b<4294967296:=Sha.and_lt ha
 have h2:a&&&c<4294967296:=Sha.and_lt ha
 have E:b&&&c<4294967296:=Sha.and_lt hb
 rw[QA _ _ (by omega) (by omega),QA _ _ (by omega) (by omega),QA _ _ (by omega) (by omega),xor3_i64 _ _ _ I h2 E]
 rfl
theorem one_i64(e f g h k w:Nat)(he:e<4294967296)(hf:f<4294967296)(hg:g<4294967296)(hh:h<4294967296)(hk:k<4294967296)(hw:w<4294967296):
 bits .and .i64 (IntKind.i64.wrap (IntKind.i64.wrap (IntKind.i64.wrap (IntKind.i64.wrap ((h:Int)+
  bits .xor .i64 (bits .xor .i64 ((Sha.rotr e 6:Nat):Int) ((Sha.rotr e 11:Nat):Int)) ((Sha.rotr e 25:Nat):Int))+
  bits .xor .i64 (bits .and .i64 (e:Int) (f:Int)) (bits .and .i64 (IntKind.i64.wrap (4294967295-(e:Int))) (g:Int)))+k)+w)) 4294967295
  =(((h+Sha.big1 e+Sha.ch e f g+k+w)%4294967296:Nat):Int):=by
 rw[ch_i64 e f g he hf hg,big1_i64 e he]
 have E:=big1_lt he
 have h2:=ch_lt (f:=f) (g:=g) he
 rw[wr (x:=(h:Int)+(Sha.big1 e:Nat)) (by omega) (by omega),wr (x:=(h:Int)+(Sha.big1 e:Nat)+(Sha.ch e f g:Nat)) (by omega) (by omega),wr (x:=(h:Int)+(Sha.big1 e:Nat)+(Sha.ch e f g:Nat)+k) (by omega) (by omega),wr (x:=(h:Int)+(Sha.big1 e:Nat)+(Sha.ch e f g:Nat)+k+w) (by omega) (by omega)]
 rw[←UN _ (by omega)]
 push_cast;rfl
theorem two_i64(a b c:Nat)(ha:a<4294967296)(hb:b<4294967296)(hc:c<4294967296):
 bits .and .i64 (IntKind.i64.wrap (bits .xor .i64 (bits .xor .i64 ((Sha.rotr a 2:Nat):Int) ((Sha.rotr a 13:Nat):Int)) ((Sha.rotr a 22:Nat):Int)+
  bits .xor .i64 (bits .xor .i64 (bits .and .i64 (a:Int) (b:Int)) (bits .and .i64 (a:Int) (c:Int))) (bits .and .i64 (b:Int) (c:Int)))) 4294967295
  =(((Sha.big0 a+Sha.maj a b c)%4294967296:Nat):Int):=by
 rw[big0_i64 a ha,maj_i64 a b c ha hb hc]
 have E:=big0_lt ha
 have h2:=maj_lt (c:=c) ha hb
 rw[wr (x:=(Sha.big0 a:Int)+(Sha.maj a b c:Nat)) (by omega) (by omega),←UN _ (by omega)]
 push_cast;rfl
theorem sum_i64(a b:Nat)(ha:a<4294967296)(hb:b<4294967296):bits .and .i64 (IntKind.i64.wrap ((a:Int)+(b:Int))) 4294967295=(((a+b)%4294967296:Nat):Int):=by
 rw[wr (x:=(a:Int)+b) (by omega) (by omega),←UN _ (by omega)]
 push_cast;rfl
def c8(v:Sha.W8):List Value:=[.int .i64 (v.a:Int),.int .i64 (v.b:Int),.int .i64 (v.c:Int),.int .i64 (v.d:Int),.int .i64 (v.e:Int),.int .i64 (v.f:Int),.int .i64 (v.g:Int),.int .i64 (v.h:Int)]
theorem K_lt:∀t,Sha.K.getD t 0<4294967296:=by
 intro t
 by_cases h:t<64
 ·have:∀t:Fin 64,Sha.K.getD t.val 0<4294967296:=by decide
  exact this ⟨t,h⟩
 ·rw[List.getD,List.getElem?_eq_none (by simp[Sha.K];omega)];decide
theorem c8_byte(x:Sha.W8)(hx:x.Fit)(t:Nat)(ht:t<8):∃a:Nat,(c8 x)[t]?=some (.int .i64 (a:Int))∧a<4294967296∧∀c,c<4→x.bytes[4*t+c]?=some (UInt8.ofNat (a>>>(8*(3-c)))):=by
 have:t=0∨t=1∨t=2∨t=3∨t=4∨t=5∨t=6∨t=7:=by omega
 have E:∀(P:Nat→Prop),P 0→P 1→P 2→P 3→∀c,c<4→P c:=fun P h0 h1 h2 h3 c hc=>by
  have:c=0∨c=1∨c=2∨c=3:=by omega
  rcases this with rfl|rfl|rfl|rfl<;>assumption
 rcases this with rfl|rfl|rfl|rfl|rfl|rfl|rfl|rfl
 ·exact⟨_,rfl,hx.a,E _ rfl rfl rfl rfl⟩
 ·exact⟨_,rfl,hx.b,E _ rfl rfl rfl rfl⟩
 ·exact⟨_,rfl,hx.c,E _ rfl rfl rfl rfl⟩
 ·exact⟨_,rfl,hx.d,E _ rfl rfl rfl rfl⟩
 ·exact⟨_,rfl,hx.e,E _ rfl rfl rfl rfl⟩
 ·exact⟨_,rfl,hx.f,E _ rfl rfl rfl rfl⟩
 ·exact⟨_,rfl,hx.g,E _ rfl rfl rfl rfl⟩
 ·exact⟨_,rfl,hx.h,E _ rfl rfl rfl rfl⟩
theorem out_byte(x c:Nat)(hx:x<4294967296):Value.int .u8 (bits BinOp.and IntKind.i64 ((x:Int)/2^(8*(3-c))) 255%256)=JB (UInt8.ofNat (x>>>(8*(3-c)))):=by
 have e:((x:Int)/2^(8*(3-c)))=((x/2^(8*(3-c)):Nat):Int):=by push_cast;rfl
 have I:x/2^(8*(3-c))≤x:=Nat.div_le_self _ _
 have E:=QA (x/2^(8*(3-c))) 255 (by omega) (by omega)
 rw[show x/2^(8*(3-c))&&&255=x/2^(8*(3-c))%256 from Nat.and_two_pow_sub_one_eq_mod _ 8]at E
 rw[e]
 unfold JB
 congr 1
 refine(congrArg (·%256) E).trans ?_
 rw[UInt8.toNat_ofNat',Nat.shiftRight_eq_div_pow]
 omega
theorem c8_plus(x y:Sha.W8)(hx:x.Fit)(hy:y.Fit)(t:Nat)(ht:t<8):∃a b:Nat,(c8 x)[t]?=some (.int .i64 (a:Int))∧(c8 y)[t]?=some (.int .i64 (b:Int))∧a<4294967296∧b<4294967296∧(c8 (x.plus y))[t]?=some (.int .i64 (((a+b)%4294967296:Nat):Int)):=by
 have:t=0∨t=1∨t=2∨t=3∨t=4∨t=5∨t=6∨t=7:=by omega
 rcases this with rfl|rfl|rfl|rfl|rfl|rfl|rfl|rfl
 ·exact⟨_,_,rfl,rfl,hx.a,hy.a,rfl⟩
 ·exact⟨_,_,rfl,rfl,hx.b,hy.b,rfl⟩
 ·exact⟨_,_,rfl,rfl,hx.c,hy.c,rfl⟩
 ·exact⟨_,_,rfl,rfl,hx.d,hy.d,rfl⟩
 ·exact⟨_,_,rfl,rfl,hx.e,hy.e,rfl⟩
 ·exact⟨_,_,rfl,rfl,hx.f,hy.f,rfl⟩
 ·exact⟨_,_,rfl,rfl,hx.g,hy.g,rfl⟩
 ·exact⟨_,_,rfl,rfl,hx.h,hy.h,rfl⟩
theorem rsum_spec(m:Mem)(s:ByteArray)(hs:s.size≤140737488355200):
 Abs.Spec Tryz.prog 205 [.string s] m fun v m'=>v=.string (str (Sha.sum s.data.toList))∧Grows m m':=by
 have R:∀(X:Nat)(b:Int),X<4294967296→2≤b→b≤31→∀M:Mem,Abs.Spec Tryz.prog 240 [.int .i64 X,.int .i64 b] M fun u M'=>u=.int .i64 (Sha.rotr X b.toNat:Nat)∧M'=M:=
  fun X b h1 h2 h3 M=>Abs.Spec.of_flat (by intro x hx;simp at hx;rcases hx with rfl|rfl<;>rfl) rfl fun w=>rrotr_q X b h1 h2 h3 w
 obtain⟨all,ab⟩:∃all,all=s.data.toList++Sha.tail s.size:=⟨_,rfl⟩
 have bc:s.data.toList.length=s.size:=by rw[Array.length_toList];rfl
 have bA:(Sha.tail s.size).length=1+Sha.zeros (s.size+1)+8:=by simp[Sha.tail,Sha.be8];omega
 have b9:all.length=s.size+1+Sha.zeros (s.size+1)+8:=by rw[ab,List.length_append,bc,bA];omega
 have bF:all.length%64=0:=by rw[b9];unfold Sha.zeros;omega
 have bT:Sha.zeros (s.size+1)≤63:=by unfold Sha.zeros;omega
 have aY:(J5 all).length=all.length:=by simp[J5]
 refine Abs.Spec.walk Tryz.func205 (by rfl) _ Tryz.results205 _ Tryz.ntmps205 (by simp) ?_
 refine J4 (J2 ?_)
 simp only[zS,reduceIte,yQ,yW,yX,yZ,yJ,yK,yV]
 refine J4 (J2 ?_)
 simp only[zS,reduceIte,yQ,yW,yX,yZ,yJ,yK,yV]
 refine⟨by kernel_rfl,_,rpadded_spec m s hs,?_⟩
 rintro v1 m1 ⟨aA,ae,Z⟩
 rw[←ab]at aA
 obtain⟨ga,rfl,aD⟩:=aA.at (by omega)
 rw[aY]at Z ⊢
 have bJ:=Z ga _ _ rfl
 clear Z aA
 simp only[zS,reduceIte,yQ,yW,yX,yZ,yJ,yK,yV]
 refine J4 (J2 ?_)
 simp only[zS,reduceIte,yQ,yW,yX,yZ,yJ,yK,yV]
 refine⟨by kernel_rfl,_,rstart_spec m1,?_⟩
 rintro _ m2 ⟨rfl,aj⟩
 simp only[zS,reduceIte,yQ,yW,yX,yZ,yJ,yK,yV]
 refine J4 (J2 ?_)
 simp only[zS,reduceIte,yQ,yW,yX,yZ,yJ,yK,yV]
 refine⟨by kernel_rfl,_,rrounds_spec m2,?_⟩
 rintro _ m3 ⟨rfl,ad⟩
 have ay:=Mem.get_lt aD
 have b8:m2.size=m1.size+1:=by rw[aj,Mem.size_push]
 obtain⟨U,az⟩:∃g,g=m1.size:=⟨_,rfl⟩
 obtain⟨gk,aH⟩:∃g,g=m2.size:=⟨_,rfl⟩
 rw[←az,←aH]
 have k1:m3.get ga=some (.cells false 1 (J5 all)):=by
  rw[ad,Mem.get_push_old (by omega),aj,Mem.get_push_old ay];exact aD
 have k2:m3.get U=some (.cells false 1 (c8 Sha.start)):=by
  rw[ad,Mem.get_push_old (by omega),aj,az,Mem.get_push_new];rfl
 have k3:m3.get gk=some (.cells false 1 (Sha.K.map natV)):=by rw[ad,aH,Mem.get_push_new]
 have aw:Grows m m3:=by rw[ad,aj];exact(ae.push _).push _
 have be:m.size≤U:=by have:=ae.1;omega
 have aq:ga≠U:=by omega
 have ar:gk≠U:=by omega
 clear aj ad aD ae b8 aH az ay
 simp only[zS,reduceIte,yQ,yW,yX,yZ,yJ,yK,yV]
 refine J4 (J4 (J2 ?_))
 simp only[zS,reduceIte,yQ,yW,yX,yZ,yJ,yK,yV]
 have hK:=fun t (ht:t<64)=>(show(Sha.K.map natV)[t]?=some (.int .i64 ((Sha.K.getD t 0:Nat):Int)) by
  rw[List.getElem?_map,List.getD,qc (by simp[Sha.K];omega)];rfl)
 refine Jv (Qy [3,4,5,6] (fun k f m'=>∃j:Nat,j+k=all.length/64∧f=[(3,.slice (some ⟨ga,0,none⟩) all.length all.length),(4,.slice (some ⟨U,0,none⟩) 8 8),(5,.slice (some ⟨gk,0,none⟩) 64 64),(6,.int .i64 ((64*j:Nat):Int))]∧
  m'.get ga=some (.cells false 1 (J5 all))∧m'.get U=some (.cells false 1 (c8 (Sha.blocksN Sha.start all j)))∧m'.get gk=some (.cells false 1 (Sha.K.map natV))∧Grows m m') (all.length/64) ?_ ?_)
 ·simp only[zS,reduceIte,yQ,yW,yX,yZ,yJ,yK,yV]
  exact⟨0,by omega,rfl,k1,k2,k3,aw⟩
 ·clear k1 k2 k3 aw
  rintro kk f m' ⟨j,hj,rfl,k1,k2,k3,am⟩
  obtain⟨E,ap⟩:∃E,E=Sha.blocksN Sha.start all j:=⟨_,rfl⟩
  have ak:E.Fit:=by rw[ap];exact Sha.blocksN_fit _ _ Sha.start_fit
  rw[←ap]at k2
  refine J4 (J4 (J2 ?_))
  simp only[zS,reduceIte,yQ,yW,yX,yZ,yJ,yK,yV,zT]
  refine Q2 (decide (((64*j:Nat):Int)<(all.length:Int))) (by rfl) (fun hc=>Q5 ?_) (fun hc=>QF ?_)
  ·simp only[zS,reduceIte,yQ,yW,yX,yZ,yJ,yK,yV]
   have bL:=of_decide_eq_true hc
   have bE:64*j+64≤all.length:=by omega
   have aZ:IntKind.i64.wrap (((64*j:Nat):Int)+64)=((64*(j+1):Nat):Int):=by rw[wr (by omega) (by omega)];omega
   refine J4 (Jv (J4 (J2 ?_)))
   simp only[zS,reduceIte,yQ,yW,yX,yZ,yJ,yK,yV,zT,aZ,slice_u8 (o:=0) (len:=all.length) (cap:=all.length) k1 ((64*j:Nat):Int) ((64*(j+1):Nat):Int) (by omega) (by omega) (by omega),qd]
   rw[show 64*(j+1)-64*j=64 by omega]
   refine⟨by kernel_rfl,_,rsched_spec m' ga (64*j) _ false all k1 bE,?_⟩
   rintro vw bx ⟨aM,ai⟩
   obtain⟨W,hW⟩:∃W,W=Sha.sched ((all.drop (64*j)).take 64) 64:=⟨_,rfl⟩
   rw[←hW]at aM
   have bI:W.length=64:=by rw[hW,Sha.sched_length]
   have bs:(W.map natV).length=64:=by rw[hW,List.length_map,Sha.sched_length]
   obtain⟨gw,rfl,ax⟩:=aM.at (by omega)
   rw[bs]
   have bw:=fun t (ht:t<64)=>(show(W.map natV)[t]?=some (.int .i64 ((W.getD t 0:Nat):Int)) by
    rw[List.getElem?_map,List.getD,qc (by omega)];rfl)
   have bq:∀t,W.getD t 0<4294967296:=fun t=>by rw[hW];exact Sha.sched_lt _ _ _
   replace k1:=ai.2 _ _ k1
   replace k2:=ai.2 _ _ k2
   replace k3:=ai.2 _ _ k3
   replace am:=am.trans ai
   clear ai aM
   unfold c8 at k2
   simp only[zS,reduceIte,yQ,yW,yX,yZ,yJ,yK,yV]
   refine J4 (Z7 hmix 31 (by kernel_rfl) (by kernel_rfl) ?_)
   simp only[zS,reduceIte,yQ,yW,yX,yZ,yJ,yK,yV,zT,k2,yJ,List.getElem?_cons_succ,List.getElem?_cons_zero,yV,yU]
   refine⟨by omega,by omega,by omega,by omega,by omega,by omega,by omega,by omega,?_⟩
   refine J4 (J4 (J2 ?_))
   simp only[zS,reduceIte,yQ,yW,yX,yZ,yJ,yK,yV]
   refine Jv (Qy [3,4,5,6,7,8,9,10,11,12,13,14,15,16] (fun k f m'=>∃(t:Nat)(v:Sha.W8),t+k=64∧v=Sha.rounds E W t∧m'=bx∧f=[(3,.slice (some ⟨ga,0,none⟩) all.length all.length),(4,.slice (some ⟨U,0,none⟩) 8 8),(5,.slice (some ⟨gk,0,none⟩) 64 64),(6,.int .i64 ((64*j:Nat):Int)),(7,.slice (some ⟨gw,0,none⟩) 64 64),
    (8,.int .i64 (v.a:Int)),(9,.int .i64 (v.b:Int)),(10,.int .i64 (v.c:Int)),(11,.int .i64 (v.d:Int)),(12,.int .i64 (v.e:Int)),(13,.int .i64 (v.f:Int)),(14,.int .i64 (v.g:Int)),(15,.int .i64 (v.h:Int)),(16,.int .i64 (t:Int))]) 64 ?_ ?_)
   ·simp only[zS,reduceIte,yQ,yW,yX,yZ,yJ,yK,yV]
    exact⟨0,E,rfl,rfl,rfl⟩
   ·rintro k f m' ⟨t,v,ht,hv,rfl,rfl⟩
    have I:v.Fit:=by rw[hv];exact Sha.rounds_fit ak _ _
    refine J4 (J4 (J2 ?_))
    simp only[zS,reduceIte,yQ,yW,yX,yZ,yJ,yK,yV,zT]
    refine Q2 (decide ((t:Int)<64)) (by rfl) (fun hc=>Q5 ?_) (fun hc=>QF ?_)
    ·simp only[zS,reduceIte,yQ,yW,yX,yZ,yJ,yK,yV]
     have a7:t<64:=by have:=of_decide_eq_true hc;omega
     refine J4 (Jv (J4 (Z7 hmix 28 (by kernel_rfl) (by kernel_rfl) ?_)))
     simp only[zS,reduceIte,yQ,yW,yX,yZ,yJ,yK,yV]
     refine⟨by kernel_rfl,_,R v.e 6 I.e (by omega) (by omega) _,?_⟩
     simp only[zS,reduceIte,yQ,yW,yX,yZ,yJ,yK,yV]
     refine⟨by kernel_rfl,_,R v.e 11 I.e (by omega) (by omega) _,?_⟩
     simp only[zS,reduceIte,yQ,yW,yX,yZ,yJ,yK,yV]
     refine⟨by kernel_rfl,_,R v.e 25 I.e (by omega) (by omega) _,?_⟩
     simp only[zS,reduceIte,yQ,yW,yX,yZ,yJ,yK,yV,zT,k3,ax,hK t a7,bw t a7,qd,one_i64 v.e v.f v.g v.h (Sha.K.getD t 0) (W.getD t 0) I.e I.f I.g I.h (K_lt t) (bq t)]
     refine⟨by omega,by omega,?_⟩
     obtain⟨t1,aF⟩:∃t1,t1=(v.h+Sha.big1 v.e+Sha.ch v.e v.f v.g+Sha.K.getD t 0+W.getD t 0)%4294967296:=⟨_,rfl⟩
     obtain⟨t2,aE⟩:∃t2,t2=(Sha.big0 v.a+Sha.maj v.a v.b v.c)%4294967296:=⟨_,rfl⟩
     have bf:t1<4294967296:=by rw[aF];exact Nat.mod_lt _ (by decide)
     have bv:t2<4294967296:=by rw[aE];exact Nat.mod_lt _ (by decide)
     rw[←aF]
     refine J4 (J2 ?_)
     simp only[zS,reduceIte,yQ,yW,yX,yZ,yJ,yK,yV]
     refine⟨by kernel_rfl,_,R v.a 2 I.a (by omega) (by omega) _,?_⟩
     rintro _ M1 ⟨rfl,Y⟩
     rw[Y]
     clear Y
     simp only[zS,reduceIte,yQ,yW,yX,yZ,yJ,yK,yV]
     refine⟨by kernel_rfl,_,R v.a 13 I.a (by omega) (by omega) _,?_⟩
     rintro _ M1 ⟨rfl,Y⟩
     rw[Y]
     clear Y
     simp only[zS,reduceIte,yQ,yW,yX,yZ,yJ,yK,yV]
     refine⟨by kernel_rfl,_,R v.a 22 I.a (by omega) (by omega) _,?_⟩
     rintro _ M1 ⟨rfl,Y⟩
     rw[Y]
     clear Y
     simp only[zS,reduceIte,yQ,yW,yX,yZ,yJ,yK,yV,two_i64 v.a v.b v.c I.a I.b I.c]
     rw[←aE]
     refine J4 (J2 ?_)
     simp only[zS,reduceIte,yQ,yW,yX,yZ,yJ,yK,yV]
     refine J4 (J2 ?_)
     simp only[zS,reduceIte,yQ,yW,yX,yZ,yJ,yK,yV]
     refine J4 (J2 ?_)
     simp only[zS,reduceIte,yQ,yW,yX,yZ,yJ,yK,yV]
     refine J4 (J2 ?_)
     simp only[zS,reduceIte,yQ,yW,yX,yZ,yJ,yK,yV,sum_i64 v.d t1 I.d bf]
     refine J4 (J2 ?_)
     simp only[zS,reduceIte,yQ,yW,yX,yZ,yJ,yK,yV]
     refine J4 (J2 ?_)
     simp only[zS,reduceIte,yQ,yW,yX,yZ,yJ,yK,yV]
     refine J4 (J2 ?_)
     simp only[zS,reduceIte,yQ,yW,yX,yZ,yJ,yK,yV]
     refine J2 ?_
     simp only[zS,reduceIte,yQ,yW,yX,yZ,yJ,yK,yV,sum_i64 t1 t2 bf bv]
     have xi:IntKind.i64.wrap ((t:Int)+1)=((t+1:Nat):Int):=by rw[wr (by omega) (by omega)];omega
     refine J2 ?_
     simp only[zS,reduceIte,yQ,yW,yX,yZ,yJ,yK,yV,xi]
     refine⟨k-1,⟨t+1,Sha.turn v (Sha.K.getD t 0) (W.getD t 0),by omega,by rw[hv];rfl,?_⟩,by omega⟩
     simp only[Sha.turn,←aF,←aE]
    ·simp only[zS,reduceIte,yQ,yW,yX,yZ,yJ,yK,yV]
     have a7:t=64:=by have:=of_decide_eq_false hc;omega
     rw[a7]at hv
     clear hc ht
     have bb:=I
     refine J4 (J2 ?_)
     simp only[zS,reduceIte,yQ,yW,yX,yZ,yJ,yK,yV,zT,new_int8]
     obtain⟨M,Y⟩:∃M,M=m'.push (.cells false 1 (c8 v)):=⟨_,rfl⟩
     obtain⟨gv,aC⟩:∃gv,gv=m'.size:=⟨_,rfl⟩
     have q0:M.get gv=some (.cells false 1 (c8 v)):=by rw[Y,aC,Mem.get_push_new]
     have q1:M.get ga=some (.cells false 1 (J5 all)):=by rw[Y,Mem.get_push_old (Mem.get_lt k1)];exact k1
     have q2:M.get U=some (.cells false 1 (c8 E)):=by rw[Y,Mem.get_push_old (Mem.get_lt k2)];exact k2
     have q3:M.get gk=some (.cells false 1 (Sha.K.map natV)):=by rw[Y,Mem.get_push_old (Mem.get_lt k3)];exact k3
     have qg:Grows m M:=by rw[Y];exact am.push _
     have aX:gv≠U:=by have:=Mem.get_lt k2;omega
     have ah:m'.push (.cells false 1 [.int .i64 (v.a:Int),.int .i64 (v.b:Int),.int .i64 (v.c:Int),.int .i64 (v.d:Int),.int .i64 (v.e:Int),.int .i64 (v.f:Int),.int .i64 (v.g:Int),.int .i64 (v.h:Int)])=M:=Y.symm
     rw[ah,←aC]
     clear ah Y aC k1 k2 k3 am ax
     refine J4 (J2 ?_)
     simp only[zS,reduceIte,yQ,yW,yX,yZ,yJ,yK,yV]
     obtain⟨O,au⟩:∃O,O=E.plus v:=⟨_,rfl⟩
     have b6:O=Sha.blocksN Sha.start all (j+1):=by
      rw[Sha.blocksN_succ,←ap,au,hv,hW];rfl
     refine Jv (Qy [3,4,5,6,19,20] (fun k f m'=>∃t:Nat,t+k=8∧f=[(3,.slice (some ⟨ga,0,none⟩) all.length all.length),(4,.slice (some ⟨U,0,none⟩) 8 8),(5,.slice (some ⟨gk,0,none⟩) 64 64),(6,.int .i64 ((64*j:Nat):Int)),(19,.slice (some ⟨gv,0,none⟩) 8 8),(20,.int .i64 (t:Int))]∧
      m'.get ga=some (.cells false 1 (J5 all))∧m'.get U=some (.cells false 1 ((c8 O).take t++(c8 E).drop t))∧m'.get gk=some (.cells false 1 (Sha.K.map natV))∧m'.get gv=some (.cells false 1 (c8 v))∧Grows m m') 8 ?_ ?_)
     ·simp only[zS,reduceIte,yQ,yW,yX,yZ,yJ,yK,yV]
      exact⟨0,rfl,rfl,q1,by simpa using q2,q3,q0,qg⟩
     ·clear q0 q1 q2 q3 qg
      rintro k f m' ⟨t,ht,rfl,q1,q2,q3,q0,qg⟩
      refine J4 (J4 (J2 ?_))
      simp only[zS,reduceIte,yQ,yW,yX,yZ,yJ,yK,yV,zT]
      refine Q2 (decide ((t:Int)<8)) (by rfl) (fun hc=>Q5 ?_) (fun hc=>QF ?_)
      ·simp only[zS,reduceIte,yQ,yW,yX,yZ,yJ,yK,yV]
       have aI:t<8:=by have:=of_decide_eq_true hc;omega
       obtain⟨x,y,hx,hy,aG,bt,bd⟩:=c8_plus E v ak bb t aI
       rw[←au]at bd
       have bu:((c8 O).take t++(c8 E).drop t)[t]?=some (.int .i64 (x:Int)):=by
        rw[List.getElem?_append_right (by simp[c8];omega),List.getElem?_drop,show t+(t-((c8 O).take t).length)=t by simp[c8];omega]
        exact hx
       have a8:=UE q2 (i:=t) (by simp[c8];omega) (((x+y)%4294967296:Nat):Int)
       have b5:((c8 O).take t++(c8 E).drop t).set t (.int .i64 (((x+y)%4294967296:Nat):Int))=(c8 O).take (t+1)++(c8 E).drop (t+1):=by
        rw[List.set_append_right _ _ (by simp[c8];omega),show t-((c8 O).take t).length=0 by simp[c8];omega,List.take_add_one,bd]
        have:(c8 E).drop t=(.int .i64 (x:Int))::(c8 E).drop (t+1):=by
         have h1:=List.drop_eq_getElem_cons (l:=c8 E) (i:=t) (by simp[c8];omega)
         rw[h1]
         have h2:=qc (l:=c8 E) (i:=t) (by simp[c8];omega)
         rw[hx]at h2
         rw[Option.some.inj h2]
        rw[this]
        simp
       rw[b5]at a8
       have xi:IntKind.i64.wrap ((t:Int)+1)=((t+1:Nat):Int):=by rw[wr (by omega) (by omega)];omega
       refine J4 (Jv (Z7 hmix 12 (by kernel_rfl) (by kernel_rfl) ?_))
       simp only[zS,reduceIte,yQ,yW,yX,yZ,yJ,yK,yV,zT,q2,q0,bu,hy,qd,sum_i64 x y aG bt,a8]
       refine⟨by omega,by omega,by omega,?_⟩
       refine J2 ?_
       simp only[zS,reduceIte,yQ,yW,yX,yZ,yJ,yK,yV,xi]
       have ag:∀b,b≠U→∀o,(m'.set U o).get b=m'.get b:=fun b hb o=>Mem.get_set_ne (Ne.symm hb) o
       refine⟨k-1,⟨t+1,by omega,rfl,?_,?_,?_,?_,?_⟩,by omega⟩
       ·rw[ag ga aq];exact q1
       ·exact Mem.get_set_same q2 _
       ·rw[ag gk ar];exact q3
       ·rw[ag gv aX];exact q0
       ·exact qg.set be _
      ·simp only[zS,reduceIte,yQ,yW,yX,yZ,yJ,yK,yV]
       have aI:t=8:=by have:=of_decide_eq_false hc;omega
       subst aI
       refine J2 ?_
       simp only[zS,reduceIte,yQ,yW,yX,yZ,yJ,yK,yV,aZ]
       refine⟨kk-1,⟨j+1,by omega,rfl,q1,?_,q3,qg⟩,by omega⟩
       rw[←b6]
       exact q2
  ·simp only[zS,reduceIte,yQ,yW,yX,yZ,yJ,yK,yV]
   have bm:j=all.length/64:=by have:=of_decide_eq_false hc;omega
   clear hc hK aq ar k1 k3
   have bg:E.bytes=Sha.sum s.data.toList:=by
    rw[ap,bm,Sha.sum,bc,←ab];rfl
   have bp:E.bytes.length=32:=by simp[Sha.W8.bytes,Sha.be4]
   refine J4 (J2 ?_)
   simp only[zS,reduceIte,yQ,yW,yX,yZ,yJ,yK,yV]
   refine J4 (J4 (J2 ?_))
   simp only[zS,reduceIte,yQ,yW,yX,yZ,yJ,yK,yV]
   refine Jv (Qy [4,21,22] (fun k f M=>∃(u:Nat)(o:Value),u+k=8∧f=[(4,.slice (some ⟨U,0,none⟩) 8 8),(21,o),(22,.int .i64 (u:Int))]∧Sl M o (J5 (E.bytes.take (4*u)))∧M.get U=some (.cells false 1 (c8 E))∧Grows m' M∧(∀g l c,o=.slice (some ⟨g,0,none⟩) l c→m'.size≤g)) 8 ?_ ?_)
   ·simp only[zS,reduceIte,yQ,yW,yX,yZ,yJ,yK,yV]
    exact⟨0,_,rfl,rfl,.inl ⟨rfl,rfl⟩,k2,Grows.refl _,fun g l c e=>by cases e⟩
   ·rintro k f M ⟨u,o,hu,rfl,ho,q2,aa,ac⟩
    refine J4 (J4 (J2 ?_))
    simp only[zS,reduceIte,yQ,yW,yX,yZ,yJ,yK,yV,zT]
    refine Q2 (decide ((u:Int)<8)) (by rfl) (fun hc=>Q5 ?_) (fun hc=>QF ?_)
    ·simp only[zS,reduceIte,yQ,yW,yX,yZ,yJ,yK,yV]
     have aN:u<8:=by have:=of_decide_eq_true hc;omega
     obtain⟨x,hx,aG,bo⟩:=c8_byte E ak u aN
     have xi:IntKind.i64.wrap ((u:Int)+1)=((u+1:Nat):Int):=by rw[wr (by omega) (by omega)];omega
     refine J4 (Jv (J4 (J2 ?_)))
     simp only[zS,reduceIte,yQ,yW,yX,yZ,yJ,yK,yV]
     refine Jv (Qy [4,21,22,23] (fun k f M=>∃(c:Nat)(o:Value),c+k=4∧f=[(4,.slice (some ⟨U,0,none⟩) 8 8),(21,o),(22,.int .i64 (u:Int)),(23,.int .i64 (3-(c:Int)))]∧Sl M o (J5 (E.bytes.take (4*u+c)))∧M.get U=some (.cells false 1 (c8 E))∧Grows m' M∧(∀g l c,o=.slice (some ⟨g,0,none⟩) l c→m'.size≤g)) 4 ?_ ?_)
     ·simp only[zS,reduceIte,yQ,yW,yX,yZ,yJ,yK,yV]
      exact⟨0,_,rfl,rfl,ho,q2,aa,ac⟩
     ·clear ho q2 aa ac
      rintro bn f M ⟨c,o,bS,rfl,ho,q2,aa,ac⟩
      refine J4 (J4 (J2 ?_))
      simp only[zS,reduceIte,yQ,yW,yX,yZ,yJ,yK,yV,zT]
      refine Q2 (decide ((3:Int)-(c:Int)≥0)) (by rfl) (fun hc=>Q5 ?_) (fun hc=>QF ?_)
      ·simp only[zS,reduceIte,yQ,yW,yX,yZ,yJ,yK,yV]
       have aL:c<4:=by have:=of_decide_eq_true hc;omega
       obtain⟨x1,y1,z1⟩:=idx (8*((3:Int)-(c:Int))) (8*(3-c)) (by omega) (by omega)
       have bD:(x:Int).fdiv (2^min (8*((3:Int)-(c:Int))).toNat IntKind.i64.bits)=(x:Int)/2^(8*(3-c)):=by
        rw[ZG,z1,show min (8*(3-c)) 64=8*(3-c) by omega]
        exact Int.fdiv_eq_ediv_of_nonneg _ (Int.le_of_lt (Int.pow_pos (by decide)))
       have aY:(J5 (E.bytes.take (4*u+c))).length≤32:=by simp[J5];omega
       obtain⟨s',m2,aP,aQ,av,aO⟩:=ho.app_u8 aa ac (.int .u8 (bits .and .i64 ((x:Int)/2^(8*(3-c))) 255%256)) (by omega)
       have aV:J5 (E.bytes.take (4*u+c))++[Value.int .u8 (bits .and .i64 ((x:Int)/2^(8*(3-c))) 255%256)]=J5 (E.bytes.take (4*u+(c+1))):=by
        rw[out_byte x c aG,←Nat.add_assoc,List.take_add_one,bo c aL]
        simp[J5]
       rw[aV]at aQ
       have br:IntKind.i64.wrap ((3:Int)-(c:Int)-1)=3-((c+1:Nat):Int):=by rw[show(3:Int)-(c:Int)-1=3-((c+1:Nat):Int) by omega];unfold IntKind.wrap;simp only[ZG];simp[IntKind.signed];omega
       have bB:m2.get U=some (.cells false 1 (c8 E)):=av.2 _ _ k2
       unfold c8 at q2
       replace hx:[Value.int .i64 (E.a:Int),.int .i64 (E.b:Int),.int .i64 (E.c:Int),.int .i64 (E.d:Int),.int .i64 (E.e:Int),.int .i64 (E.f:Int),.int .i64 (E.g:Int),.int .i64 (E.h:Int)][u]?=some (.int .i64 (x:Int)):=hx
       refine J4 (Jv (J2 ?_))
       simp only[zS,reduceIte,yQ,yW,yX,yZ,yJ,yK,yV,zT,q2,hx,x1,y1,bD,wrap_u8,qd,aP]
       refine⟨by omega,?_⟩
       refine J2 ?_
       simp only[zS,reduceIte,yQ,yW,yX,yZ,yJ,yK,yV,br]
       exact⟨bn-1,⟨c+1,s',by omega,rfl,aQ,bB,av,aO⟩,by omega⟩
      ·simp only[zS,reduceIte,yQ,yW,yX,yZ,yJ,yK,yV]
       have aL:c=4:=by have:=of_decide_eq_false hc;omega
       subst aL
       refine J2 ?_
       simp only[zS,reduceIte,yQ,yW,yX,yZ,yJ,yK,yV,xi]
       exact⟨k-1,⟨u+1,o,by omega,rfl,ho,q2,aa,ac⟩,by omega⟩
    ·simp only[zS,reduceIte,yQ,yW,yX,yZ,yJ,yK,yV]
     have aN:u=8:=by have:=of_decide_eq_false hc;omega
     subst aN
     rw[List.take_of_length_le (by omega),bg]at ho
     have aJ:=Sha.sum_length s.data.toList
     obtain⟨go,rfl,bC⟩:=ho.at (by simp[J5,aJ])
     refine J4 (J2 ?_)
     simp only[zS,reduceIte,yQ,yW,yX,yZ,yJ,yK,yV,zT,to_str (n:=(J5 (Sha.sum s.data.toList)).length) bC (by simp[J5])]
     refine Xa ?_
     simp only[zS,reduceIte,yQ,yW,yX,yZ,yJ,yK,yV,sAnswer,sAnswer.sRes]
     exact am.trans aa
end Go.Proofs.YthohbneadomgdaaGreatDoor
