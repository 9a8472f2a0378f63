import Derived.Test.YthohbneadomgdaaGreatDoorStag17
set_option linter.all false
set_option maxRecDepth 100000
set_option maxHeartbeats 16000000
open Nat renaming reduceLT→yQ,reduceEqDiff→yK,reduceAdd→yV,reduceSub→yY,reduceMul→yU
open Int renaming reduceToNat→yW,reduceLE→yX,reduceEq→yZ,reduceLT→yJ
open List renaming getElem?_eq_getElem→qd
open Int renaming toNat_natCast→qe
namespace Go.Proofs.YthohbneadomgdaaGreatDoor
open Go.RowKit Abs
theorem ch_i64(e f g:Nat)(he:e<4294967296)(hf:f<4294967296)(hg:g<4294967296):
 bits .xor .i64 (bits .and .i64 (e:Int) (f:Int)) (bits .and .i64 (IntKind.i64.wrap (4294967295-(e:Int))) (g:Int))=((Sha.ch e f g:Nat):Int):=by
 have E:IntKind.i64.wrap (4294967295-(e:Int))=((4294967295-e:Nat):Int):=by rw[wr (by omega) (by omega)];omega
 have I:e&&&f<4294967296:=Sha.and_lt he
 have h2:(4294967295-e)&&&g<4294967296:=Sha.and_lt (by omega)
 rw[E,Qy _ _ (by omega) (by omega),Qy _ _ (by omega) (by omega),XL _ _ (by omega) (by omega)]
 rfl
theorem big1_i64(e:Nat)(he:e<4294967296):bits .xor .i64 (bits .xor .i64 ((Sha.rotr e 6:Nat):Int) ((Sha.rotr e 11:Nat):Int)) ((Sha.rotr e 25:Nat):Int)=(Sha.big1 e:Nat):=by
 rw[xor3_i64 _ _ _ (Sha.rotr_lt he) (Sha.rotr_lt he) (Sha.rotr_lt he)];rfl
theorem big0_i64(e:Nat)(he:e<4294967296):bits .xor .i64 (bits .xor .i64 ((Sha.rotr e 2:Nat):Int) ((Sha.rotr e 13:Nat):Int)) ((Sha.rotr e 22:Nat):Int)=(Sha.big0 e:Nat):=by
 rw[xor3_i64 _ _ _ (Sha.rotr_lt he) (Sha.rotr_lt he) (Sha.rotr_lt he)];rfl
theorem big0_lt{a:Nat}(ha:a<4294967296):Sha.big0 a<4294967296:=Sha.xor_lt (Sha.xor_lt (Sha.rotr_lt ha) (Sha.rotr_lt ha)) (Sha.rotr_lt ha)
theorem big1_lt{a:Nat}(ha:a<4294967296):Sha.big1 a<4294967296:=Sha.xor_lt (Sha.xor_lt (Sha.rotr_lt ha) (Sha.rotr_lt ha)) (Sha.rotr_lt ha)
theorem ch_lt{e f g:Nat}(he:e<4294967296):Sha.ch e f g<4294967296:=Sha.xor_lt (Sha.and_lt he) (Sha.and_lt (by omega))
theorem maj_lt{a b c:Nat}(ha:a<4294967296)(hb:b<4294967296):Sha.maj a b c<4294967296:=Sha.xor_lt (Sha.xor_lt (Sha.and_lt ha) (Sha.and_lt ha)) (Sha.and_lt hb)
theorem maj_i64(a b c:Nat)(ha:a<4294967296)(hb:b<4294967296)(hc:c<4294967296):
 bits .xor .i64 (bits .xor .i64 (bits .and .i64 (a:Int) (b:Int)) (bits .and .i64 (a:Int) (c:Int))) (bits .and .i64 (b:Int) (c:Int))=(Sha.maj a b c:Nat):=by
 have E:a&&&b<4294967296:=Sha.and_lt ha
 have h2:a&&&c<4294967296:=Sha.and_lt ha
 have I:b&&&c<4294967296:=Sha.and_lt hb
 rw[Qy _ _ (by omega) (by omega),Qy _ _ (by omega) (by omega),Qy _ _ (by omega) (by omega),xor3_i64 _ _ _ E h2 I]
 rfl
theorem one_i64(e f g h k w:Nat)(he:e<4294967296)(hf:f<4294967296)(hg:g<4294967296)(hh:h<4294967296)(hk:k<4294967296)(hw:w<4294967296):
 bits .and .i64 (IntKind.i64.wrap (IntKind.i64.wrap (IntKind.i64.wrap (IntKind.i64.wrap ((h:Int)+
  bits .xor .i64 (bits .xor .i64 ((Sha.rotr e 6:Nat):Int) ((Sha.rotr e 11:Nat):Int)) ((Sha.rotr e 25:Nat):Int))+
  bits .xor .i64 (bits .and .i64 (e:Int) (f:Int)) (bits .and .i64 (IntKind.i64.wrap (4294967295-(e:Int))) (g:Int)))+k)+w)) 4294967295
  =(((h+Sha.big1 e+Sha.ch e f g+k+w)%4294967296:Nat):Int):=by
 rw[ch_i64 e f g he hf hg,big1_i64 e he]
 have E:=big1_lt he
 have h2:=ch_lt (f:=f) (g:=g) he
 rw[wr (x:=(h:Int)+(Sha.big1 e:Nat)) (by omega) (by omega),wr (x:=(h:Int)+(Sha.big1 e:Nat)+(Sha.ch e f g:Nat)) (by omega) (by omega),wr (x:=(h:Int)+(Sha.big1 e:Nat)+(Sha.ch e f g:Nat)+k) (by omega) (by omega),wr (x:=(h:Int)+(Sha.big1 e:Nat)+(Sha.ch e f g:Nat)+k+w) (by omega) (by omega)]
 rw[←US _ (by omega)]
 push_cast;rfl
theorem two_i64(a b c:Nat)(ha:a<4294967296)(hb:b<4294967296)(hc:c<4294967296):
 bits .and .i64 (IntKind.i64.wrap (bits .xor .i64 (bits .xor .i64 ((Sha.rotr a 2:Nat):Int) ((Sha.rotr a 13:Nat):Int)) ((Sha.rotr a 22:Nat):Int)+
  bits .xor .i64 (bits .xor .i64 (bits .and .i64 (a:Int) (b:Int)) (bits .and .i64 (a:Int) (c:Int))) (bits .and .i64 (b:Int) (c:Int)))) 4294967295
  =(((Sha.big0 a+Sha.maj a b c)%4294967296:Nat):Int):=by
 rw[big0_i64 a ha,maj_i64 a b c ha hb hc]
 have E:=big0_lt ha
 have h2:=maj_lt (c:=c) ha hb
 rw[wr (x:=(Sha.big0 a:Int)+(Sha.maj a b c:Nat)) (by omega) (by omega),←US _ (by omega)]
 push_cast;rfl
theorem sum_i64(a b:Nat)(ha:a<4294967296)(hb:b<4294967296):bits .and .i64 (IntKind.i64.wrap ((a:Int)+(b:Int))) 4294967295=(((a+b)%4294967296:Nat):Int):=by
 rw[wr (x:=(a:Int)+b) (by omega) (by omega),←US _ (by omega)]
 push_cast;rfl
def c8(v:Sha.W8):List Value:=[.int .i64 (v.a:Int),.int .i64 (v.b:Int),.int .i64 (v.c:Int),.int .i64 (v.d:Int),.int .i64 (v.e:Int),.int .i64 (v.f:Int),.int .i64 (v.g:Int),.int .i64 (v.h:Int)]
theorem K_lt:∀t,Sha.K.getD t 0<4294967296:=by
 intro t
 by_cases h:t<64
 ·have:∀t:Fin 64,Sha.K.getD t.val 0<4294967296:=by decide
  exact this ⟨t,h⟩
 ·rw[List.getD,List.getElem?_eq_none (by simp[Sha.K];omega)];decide
theorem c8_byte(x:Sha.W8)(hx:x.Fit)(t:Nat)(ht:t<8):∃a:Nat,(c8 x)[t]?=some (.int .i64 (a:Int))∧a<4294967296∧∀c,c<4→x.bytes[4*t+c]?=some (UInt8.ofNat (a>>>(8*(3-c)))):=by
 have:t=0∨t=1∨t=2∨t=3∨t=4∨t=5∨t=6∨t=7:=by omega
 have E:∀(P:Nat→Prop),P 0→P 1→P 2→P 3→∀c,c<4→P c:=fun P h0 h1 h2 h3 c hc=>by
  have:c=0∨c=1∨c=2∨c=3:=by omega
  rcases this with rfl|rfl|rfl|rfl<;>assumption
 rcases this with rfl|rfl|rfl|rfl|rfl|rfl|rfl|rfl
 ·exact⟨_,rfl,hx.a,E _ rfl rfl rfl rfl⟩
 ·exact⟨_,rfl,hx.b,E _ rfl rfl rfl rfl⟩
 ·exact⟨_,rfl,hx.c,E _ rfl rfl rfl rfl⟩
 ·exact⟨_,rfl,hx.d,E _ rfl rfl rfl rfl⟩
 ·exact⟨_,rfl,hx.e,E _ rfl rfl rfl rfl⟩
 ·exact⟨_,rfl,hx.f,E _ rfl rfl rfl rfl⟩
 ·exact⟨_,rfl,hx.g,E _ rfl rfl rfl rfl⟩
 ·exact⟨_,rfl,hx.h,E _ rfl rfl rfl rfl⟩
theorem out_byte(x c:Nat)(hx:x<4294967296):Value.int .u8 (bits BinOp.and IntKind.i64 ((x:Int)/2^(8*(3-c))) 255%256)=Jy (UInt8.ofNat (x>>>(8*(3-c)))):=by
 have e:((x:Int)/2^(8*(3-c)))=((x/2^(8*(3-c)):Nat):Int):=by push_cast;rfl
 have I:x/2^(8*(3-c))≤x:=Nat.div_le_self _ _
 have E:=Qy (x/2^(8*(3-c))) 255 (by omega) (by omega)
 rw[show x/2^(8*(3-c))&&&255=x/2^(8*(3-c))%256 from Nat.and_two_pow_sub_one_eq_mod _ 8]at E
 rw[e]
 unfold Jy
 congr 1
 refine(congrArg (·%256) E).trans ?_
 rw[UInt8.toNat_ofNat',Nat.shiftRight_eq_div_pow]
 omega
theorem c8_plus(x y:Sha.W8)(hx:x.Fit)(hy:y.Fit)(t:Nat)(ht:t<8):∃a b:Nat,(c8 x)[t]?=some (.int .i64 (a:Int))∧(c8 y)[t]?=some (.int .i64 (b:Int))∧a<4294967296∧b<4294967296∧(c8 (x.plus y))[t]?=some (.int .i64 (((a+b)%4294967296:Nat):Int)):=by
 have:t=0∨t=1∨t=2∨t=3∨t=4∨t=5∨t=6∨t=7:=by omega
 rcases this with rfl|rfl|rfl|rfl|rfl|rfl|rfl|rfl
 ·exact⟨_,_,rfl,rfl,hx.a,hy.a,rfl⟩
 ·exact⟨_,_,rfl,rfl,hx.b,hy.b,rfl⟩
 ·exact⟨_,_,rfl,rfl,hx.c,hy.c,rfl⟩
 ·exact⟨_,_,rfl,rfl,hx.d,hy.d,rfl⟩
 ·exact⟨_,_,rfl,rfl,hx.e,hy.e,rfl⟩
 ·exact⟨_,_,rfl,rfl,hx.f,hy.f,rfl⟩
 ·exact⟨_,_,rfl,rfl,hx.g,hy.g,rfl⟩
 ·exact⟨_,_,rfl,rfl,hx.h,hy.h,rfl⟩
theorem rsum_spec(m:Mem)(s:ByteArray)(hs:s.size≤140737488355200):
 Abs.Spec Tryz.prog 205 [.string s] m fun v m'=>v=.string (str (Sha.sum s.data.toList))∧Grows m m':=by
 have R:∀(X:Nat)(b:Int),X<4294967296→2≤b→b≤31→∀M:Mem,Abs.Spec Tryz.prog 240 [.int .i64 X,.int .i64 b] M fun u M'=>u=.int .i64 (Sha.rotr X b.toNat:Nat)∧M'=M:=
  fun X b h1 h2 h3 M=>Abs.Spec.of_flat (by intro x hx;simp at hx;rcases hx with rfl|rfl<;>rfl) rfl fun w=>rrotr_q X b h1 h2 h3 w
 obtain⟨all,al⟩:∃all,all=s.data.toList++Sha.tail s.size:=⟨_,rfl⟩
 have ba:s.data.toList.length=s.size:=by rw[Array.length_toList];rfl
 have bo:(Sha.tail s.size).length=1+Sha.zeros (s.size+1)+8:=by simp[Sha.tail,Sha.be8];omega
 have aX:all.length=s.size+1+Sha.zeros (s.size+1)+8:=by rw[al,List.length_append,ba,bo];omega
 have bG:all.length%64=0:=by rw[aX];unfold Sha.zeros;omega
 have bQ:Sha.zeros (s.size+1)≤63:=by unfold Sha.zeros;omega
 have bf:(J5 all).length=all.length:=by simp[J5]
 refine Abs.Spec.walk Tryz.func205 (by rfl) _ Tryz.results205 _ Tryz.ntmps205 (by simp) ?_
 refine J4 (J2 ?_)
 simp only[zS,reduceIte,yQ,yW,yX,yZ,yJ,yK,yV]
 refine J4 (J2 ?_)
 simp only[zS,reduceIte,yQ,yW,yX,yZ,yJ,yK,yV]
 refine⟨by kernel_rfl,_,rpadded_spec m s hs,?_⟩
 rintro v1 m1 ⟨aE,ad,Y⟩
 rw[←al]at aE
 obtain⟨ga,rfl,aF⟩:=aE.at (by omega)
 rw[bf]at Y ⊢
 have bI:=Y ga _ _ rfl
 clear Y aE
 simp only[zS,reduceIte,yQ,yW,yX,yZ,yJ,yK,yV]
 refine J4 (J2 ?_)
 simp only[zS,reduceIte,yQ,yW,yX,yZ,yJ,yK,yV]
 refine⟨by kernel_rfl,_,rstart_spec m1,?_⟩
 rintro _ m2 ⟨rfl,aa⟩
 simp only[zS,reduceIte,yQ,yW,yX,yZ,yJ,yK,yV]
 refine J4 (J2 ?_)
 simp only[zS,reduceIte,yQ,yW,yX,yZ,yJ,yK,yV]
 refine⟨by kernel_rfl,_,rrounds_spec m2,?_⟩
 rintro _ m3 ⟨rfl,ab⟩
 have aq:=Mem.get_lt aF
 have aW:m2.size=m1.size+1:=by rw[aa,Mem.size_push]
 obtain⟨O,aI⟩:∃g,g=m1.size:=⟨_,rfl⟩
 obtain⟨gk,aB⟩:∃g,g=m2.size:=⟨_,rfl⟩
 rw[←aI,←aB]
 have k1:m3.get ga=some (.cells false 1 (J5 all)):=by
  rw[ab,Mem.get_push_old (by omega),aa,Mem.get_push_old aq];exact aF
 have k2:m3.get O=some (.cells false 1 (c8 Sha.start)):=by
  rw[ab,Mem.get_push_old (by omega),aa,aI,Mem.get_push_new];rfl
 have k3:m3.get gk=some (.cells false 1 (Sha.K.map natV)):=by rw[ab,aB,Mem.get_push_new]
 have au:Grows m m3:=by rw[ab,aa];exact(ad.push _).push _
 have aT:m.size≤O:=by have:=ad.1;omega
 have ar:ga≠O:=by omega
 have aw:gk≠O:=by omega
 clear aa ab aF ad aW aB aI aq
 simp only[zS,reduceIte,yQ,yW,yX,yZ,yJ,yK,yV]
 refine J4 (J4 (J2 ?_))
 simp only[zS,reduceIte,yQ,yW,yX,yZ,yJ,yK,yV]
 have hK:=fun t (ht:t<64)=>(show(Sha.K.map natV)[t]?=some (.int .i64 ((Sha.K.getD t 0:Nat):Int)) by
  rw[List.getElem?_map,List.getD,qd (by simp[Sha.K];omega)];rfl)
 refine Ju (Qw [3,4,5,6] (fun k f m'=>∃j:Nat,j+k=all.length/64∧f=[(3,.slice (some ⟨ga,0,none⟩) all.length all.length),(4,.slice (some ⟨O,0,none⟩) 8 8),(5,.slice (some ⟨gk,0,none⟩) 64 64),(6,.int .i64 ((64*j:Nat):Int))]∧
  m'.get ga=some (.cells false 1 (J5 all))∧m'.get O=some (.cells false 1 (c8 (Sha.blocksN Sha.start all j)))∧m'.get gk=some (.cells false 1 (Sha.K.map natV))∧Grows m m') (all.length/64) ?_ ?_)
 ·simp only[zS,reduceIte,yQ,yW,yX,yZ,yJ,yK,yV]
  exact⟨0,by omega,rfl,k1,k2,k3,au⟩
 ·clear k1 k2 k3 au
  rintro kk f m' ⟨j,hj,rfl,k1,k2,k3,af⟩
  obtain⟨st,an⟩:∃st,st=Sha.blocksN Sha.start all j:=⟨_,rfl⟩
  have ae:st.Fit:=by rw[an];exact Sha.blocksN_fit _ _ Sha.start_fit
  rw[←an]at k2
  refine J4 (J4 (J2 ?_))
  simp only[zS,reduceIte,yQ,yW,yX,yZ,yJ,yK,yV,zT]
  refine JZ (decide (((64*j:Nat):Int)<(all.length:Int))) (by rfl) (fun hc=>Q1 ?_) (fun hc=>QC ?_)
  ·simp only[zS,reduceIte,yQ,yW,yX,yZ,yJ,yK,yV]
   have bP:=of_decide_eq_true hc
   have br:64*j+64≤all.length:=by omega
   have aQ:IntKind.i64.wrap (((64*j:Nat):Int)+64)=((64*(j+1):Nat):Int):=by rw[wr (by omega) (by omega)];omega
   refine J4 (Ju (J4 (J2 ?_)))
   simp only[zS,reduceIte,yQ,yW,yX,yZ,yJ,yK,yV,zT,aQ,slice_u8 (o:=0) (len:=all.length) (cap:=all.length) k1 ((64*j:Nat):Int) ((64*(j+1):Nat):Int) (by omega) (by omega) (by omega),qe]
   rw[show 64*(j+1)-64*j=64 by omega]
   refine⟨by kernel_rfl,_,rsched_spec m' ga (64*j) _ false all k1 br,?_⟩
   rintro vw bz ⟨ay,ag⟩
   obtain⟨W,hW⟩:∃W,W=Sha.sched ((all.drop (64*j)).take 64) 64:=⟨_,rfl⟩
   rw[←hW]at ay
   have bE:W.length=64:=by rw[hW,Sha.sched_length]
   have bB:(W.map natV).length=64:=by rw[hW,List.length_map,Sha.sched_length]
   obtain⟨gw,rfl,ap⟩:=ay.at (by omega)
   rw[bB]
   have bC:=fun t (ht:t<64)=>(show(W.map natV)[t]?=some (.int .i64 ((W.getD t 0:Nat):Int)) by
    rw[List.getElem?_map,List.getD,qd (by omega)];rfl)
   have bm:∀t,W.getD t 0<4294967296:=fun t=>by rw[hW];exact Sha.sched_lt _ _ _
   replace k1:=ag.2 _ _ k1
   replace k2:=ag.2 _ _ k2
   replace k3:=ag.2 _ _ k3
   replace af:=af.trans ag
   clear ag ay
   unfold c8 at k2
   simp only[zS,reduceIte,yQ,yW,yX,yZ,yJ,yK,yV]
   refine J4 (Z9 hmix 31 (by kernel_rfl) (by kernel_rfl) ?_)
   simp only[zS,reduceIte,yQ,yW,yX,yZ,yJ,yK,yV,zT,k2,yJ,List.getElem?_cons_succ,List.getElem?_cons_zero,yV,yU]
   refine⟨by omega,by omega,by omega,by omega,by omega,by omega,by omega,by omega,?_⟩
   refine J4 (J4 (J2 ?_))
   simp only[zS,reduceIte,yQ,yW,yX,yZ,yJ,yK,yV]
   refine Ju (Qw [3,4,5,6,7,8,9,10,11,12,13,14,15,16] (fun k f m'=>∃(t:Nat)(v:Sha.W8),t+k=64∧v=Sha.rounds st W t∧m'=bz∧f=[(3,.slice (some ⟨ga,0,none⟩) all.length all.length),(4,.slice (some ⟨O,0,none⟩) 8 8),(5,.slice (some ⟨gk,0,none⟩) 64 64),(6,.int .i64 ((64*j:Nat):Int)),(7,.slice (some ⟨gw,0,none⟩) 64 64),
    (8,.int .i64 (v.a:Int)),(9,.int .i64 (v.b:Int)),(10,.int .i64 (v.c:Int)),(11,.int .i64 (v.d:Int)),(12,.int .i64 (v.e:Int)),(13,.int .i64 (v.f:Int)),(14,.int .i64 (v.g:Int)),(15,.int .i64 (v.h:Int)),(16,.int .i64 (t:Int))]) 64 ?_ ?_)
   ·simp only[zS,reduceIte,yQ,yW,yX,yZ,yJ,yK,yV]
    exact⟨0,st,rfl,rfl,rfl⟩
   ·rintro k f m' ⟨t,v,ht,hv,rfl,rfl⟩
    have E:v.Fit:=by rw[hv];exact Sha.rounds_fit ae _ _
    refine J4 (J4 (J2 ?_))
    simp only[zS,reduceIte,yQ,yW,yX,yZ,yJ,yK,yV,zT]
    refine JZ (decide ((t:Int)<64)) (by rfl) (fun hc=>Q1 ?_) (fun hc=>QC ?_)
    ·simp only[zS,reduceIte,yQ,yW,yX,yZ,yJ,yK,yV]
     have a6:t<64:=by have:=of_decide_eq_true hc;omega
     refine J4 (Ju (J4 (Z9 hmix 28 (by kernel_rfl) (by kernel_rfl) ?_)))
     simp only[zS,reduceIte,yQ,yW,yX,yZ,yJ,yK,yV]
     refine⟨by kernel_rfl,_,R v.e 6 E.e (by omega) (by omega) _,?_⟩
     simp only[zS,reduceIte,yQ,yW,yX,yZ,yJ,yK,yV]
     refine⟨by kernel_rfl,_,R v.e 11 E.e (by omega) (by omega) _,?_⟩
     simp only[zS,reduceIte,yQ,yW,yX,yZ,yJ,yK,yV]
     refine⟨by kernel_rfl,_,R v.e 25 E.e (by omega) (by omega) _,?_⟩
     simp only[zS,reduceIte,yQ,yW,yX,yZ,yJ,yK,yV,zT,k3,ap,hK t a6,bC t a6,qe,one_i64 v.e v.f v.g v.h (Sha.K.getD t 0) (W.getD t 0) E.e E.f E.g E.h (K_lt t) (bm t)]
     refine⟨by omega,by omega,?_⟩
     obtain⟨t1,aL⟩:∃t1,t1=(v.h+Sha.big1 v.e+Sha.ch v.e v.f v.g+Sha.K.getD t 0+W.getD t 0)%4294967296:=⟨_,rfl⟩
     obtain⟨t2,aG⟩:∃t2,t2=(Sha.big0 v.a+Sha.maj v.a v.b v.c)%4294967296:=⟨_,rfl⟩
     have aS:t1<4294967296:=by rw[aL];exact Nat.mod_lt _ (by decide)
     have bl:t2<4294967296:=by rw[aG];exact Nat.mod_lt _ (by decide)
     rw[←aL]
     refine J4 (J2 ?_)
     simp only[zS,reduceIte,yQ,yW,yX,yZ,yJ,yK,yV]
     refine⟨by kernel_rfl,_,R v.a 2 E.a (by omega) (by omega) _,?_⟩
     rintro _ M1 ⟨rfl,U⟩
     rw[U]
     clear U
     simp only[zS,reduceIte,yQ,yW,yX,yZ,yJ,yK,yV]
     refine⟨by kernel_rfl,_,R v.a 13 E.a (by omega) (by omega) _,?_⟩
     rintro _ M1 ⟨rfl,U⟩
     rw[U]
     clear U
     simp only[zS,reduceIte,yQ,yW,yX,yZ,yJ,yK,yV]
     refine⟨by kernel_rfl,_,R v.a 22 E.a (by omega) (by omega) _,?_⟩
     rintro _ M1 ⟨rfl,U⟩
     rw[U]
     clear U
     simp only[zS,reduceIte,yQ,yW,yX,yZ,yJ,yK,yV,two_i64 v.a v.b v.c E.a E.b E.c]
     rw[←aG]
     refine J4 (J2 ?_)
     simp only[zS,reduceIte,yQ,yW,yX,yZ,yJ,yK,yV]
     refine J4 (J2 ?_)
     simp only[zS,reduceIte,yQ,yW,yX,yZ,yJ,yK,yV]
     refine J4 (J2 ?_)
     simp only[zS,reduceIte,yQ,yW,yX,yZ,yJ,yK,yV]
     refine J4 (J2 ?_)
     simp only[zS,reduceIte,yQ,yW,yX,yZ,yJ,yK,yV,sum_i64 v.d t1 E.d aS]
     refine J4 (J2 ?_)
     simp only[zS,reduceIte,yQ,yW,yX,yZ,yJ,yK,yV]
     refine J4 (J2 ?_)
     simp only[zS,reduceIte,yQ,yW,yX,yZ,yJ,yK,yV]
     refine J4 (J2 ?_)
     simp only[zS,reduceIte,yQ,yW,yX,yZ,yJ,yK,yV]
     refine J2 ?_
     simp only[zS,reduceIte,yQ,yW,yX,yZ,yJ,yK,yV,sum_i64 t1 t2 aS bl]
     have xi:IntKind.i64.wrap ((t:Int)+1)=((t+1:Nat):Int):=by rw[wr (by omega) (by omega)];omega
     refine J2 ?_
     simp only[zS,reduceIte,yQ,yW,yX,yZ,yJ,yK,yV,xi]
     refine⟨k-1,⟨t+1,Sha.turn v (Sha.K.getD t 0) (W.getD t 0),by omega,by rw[hv];rfl,?_⟩,by omega⟩
     simp only[Sha.turn,←aL,←aG]
    ·simp only[zS,reduceIte,yQ,yW,yX,yZ,yJ,yK,yV]
     have a6:t=64:=by have:=of_decide_eq_false hc;omega
     rw[a6]at hv
     clear hc ht
     have aY:=E
     refine J4 (J2 ?_)
     simp only[zS,reduceIte,yQ,yW,yX,yZ,yJ,yK,yV,zT,new_int8]
     obtain⟨M,U⟩:∃M,M=m'.push (.cells false 1 (c8 v)):=⟨_,rfl⟩
     obtain⟨gv,aA⟩:∃gv,gv=m'.size:=⟨_,rfl⟩
     have q0:M.get gv=some (.cells false 1 (c8 v)):=by rw[U,aA,Mem.get_push_new]
     have q1:M.get ga=some (.cells false 1 (J5 all)):=by rw[U,Mem.get_push_old (Mem.get_lt k1)];exact k1
     have q2:M.get O=some (.cells false 1 (c8 st)):=by rw[U,Mem.get_push_old (Mem.get_lt k2)];exact k2
     have q3:M.get gk=some (.cells false 1 (Sha.K.map natV)):=by rw[U,Mem.get_push_old (Mem.get_lt k3)];exact k3
     have qg:Grows m M:=by rw[U];exact af.push _
     have b6:gv≠O:=by have:=Mem.get_lt k2;omega
     have ai:m'.push (.cells false 1 [.int .i64 (v.a:Int),.int .i64 (v.b:Int),.int .i64 (v.c:Int),.int .i64 (v.d:Int),.int .i64 (v.e:Int),.int .i64 (v.f:Int),.int .i64 (v.g:Int),.int .i64 (v.h:Int)])=M:=U.symm
     rw[ai,←aA]
     clear ai U aA k1 k2 k3 af ap
     refine J4 (J2 ?_)
     simp only[zS,reduceIte,yQ,yW,yX,yZ,yJ,yK,yV]
     obtain⟨I,ax⟩:∃I,I=st.plus v:=⟨_,rfl⟩
     have be:I=Sha.blocksN Sha.start all (j+1):=by
      rw[Sha.blocksN_succ,←an,ax,hv,hW];rfl
     refine Ju (Qw [3,4,5,6,19,20] (fun k f m'=>∃t:Nat,t+k=8∧f=[(3,.slice (some ⟨ga,0,none⟩) all.length all.length),(4,.slice (some ⟨O,0,none⟩) 8 8),(5,.slice (some ⟨gk,0,none⟩) 64 64),(6,.int .i64 ((64*j:Nat):Int)),(19,.slice (some ⟨gv,0,none⟩) 8 8),(20,.int .i64 (t:Int))]∧
      m'.get ga=some (.cells false 1 (J5 all))∧m'.get O=some (.cells false 1 ((c8 I).take t++(c8 st).drop t))∧m'.get gk=some (.cells false 1 (Sha.K.map natV))∧m'.get gv=some (.cells false 1 (c8 v))∧Grows m m') 8 ?_ ?_)
     ·simp only[zS,reduceIte,yQ,yW,yX,yZ,yJ,yK,yV]
      exact⟨0,rfl,rfl,q1,by simpa using q2,q3,q0,qg⟩
     ·clear q0 q1 q2 q3 qg
      rintro k f m' ⟨t,ht,rfl,q1,q2,q3,q0,qg⟩
      refine J4 (J4 (J2 ?_))
      simp only[zS,reduceIte,yQ,yW,yX,yZ,yJ,yK,yV,zT]
      refine JZ (decide ((t:Int)<8)) (by rfl) (fun hc=>Q1 ?_) (fun hc=>QC ?_)
      ·simp only[zS,reduceIte,yQ,yW,yX,yZ,yJ,yK,yV]
       have aC:t<8:=by have:=of_decide_eq_true hc;omega
       obtain⟨x,y,hx,hy,az,bp,b7⟩:=c8_plus st v ae aY t aC
       rw[←ax]at b7
       have bn:((c8 I).take t++(c8 st).drop t)[t]?=some (.int .i64 (x:Int)):=by
        rw[List.getElem?_append_right (by simp[c8];omega),List.getElem?_drop,show t+(t-((c8 I).take t).length)=t by simp[c8];omega]
        exact hx
       have Z:=UJ q2 (i:=t) (by simp[c8];omega) (((x+y)%4294967296:Nat):Int)
       have b8:((c8 I).take t++(c8 st).drop t).set t (.int .i64 (((x+y)%4294967296:Nat):Int))=(c8 I).take (t+1)++(c8 st).drop (t+1):=by
        rw[List.set_append_right _ _ (by simp[c8];omega),show t-((c8 I).take t).length=0 by simp[c8];omega,List.take_add_one,b7]
        have:(c8 st).drop t=(.int .i64 (x:Int))::(c8 st).drop (t+1):=by
         have h1:=List.drop_eq_getElem_cons (l:=c8 st) (i:=t) (by simp[c8];omega)
         rw[h1]
         have h2:=qd (l:=c8 st) (i:=t) (by simp[c8];omega)
         rw[hx]at h2
         rw[Option.some.inj h2]
        rw[this]
        simp
       rw[b8]at Z
       have xi:IntKind.i64.wrap ((t:Int)+1)=((t+1:Nat):Int):=by rw[wr (by omega) (by omega)];omega
       refine J4 (Ju (Z9 hmix 12 (by kernel_rfl) (by kernel_rfl) ?_))
       simp only[zS,reduceIte,yQ,yW,yX,yZ,yJ,yK,yV,zT,q2,q0,bn,hy,qe,sum_i64 x y az bp,Z]
       refine⟨by omega,by omega,by omega,?_⟩
       refine J2 ?_
       simp only[zS,reduceIte,yQ,yW,yX,yZ,yJ,yK,yV,xi]
       have ah:∀b,b≠O→∀o,(m'.set O o).get b=m'.get b:=fun b hb o=>Mem.get_set_ne (Ne.symm hb) o
       refine⟨k-1,⟨t+1,by omega,rfl,?_,?_,?_,?_,?_⟩,by omega⟩
       ·rw[ah ga ar];exact q1
       ·exact Mem.get_set_same q2 _
       ·rw[ah gk aw];exact q3
       ·rw[ah gv b6];exact q0
       ·exact qg.set aT _
      ·simp only[zS,reduceIte,yQ,yW,yX,yZ,yJ,yK,yV]
       have aC:t=8:=by have:=of_decide_eq_false hc;omega
       subst aC
       refine J2 ?_
       simp only[zS,reduceIte,yQ,yW,yX,yZ,yJ,yK,yV,aQ]
       refine⟨kk-1,⟨j+1,by omega,rfl,q1,?_,q3,qg⟩,by omega⟩
       rw[←be]
       exact q2
  ·simp only[zS,reduceIte,yQ,yW,yX,yZ,yJ,yK,yV]
   have bs:j=all.length/64:=by have:=of_decide_eq_false hc;omega
   clear hc hK ar aw k1 k3
   have aU:st.bytes=Sha.sum s.data.toList:=by
    rw[an,bs,Sha.sum,ba,←al];rfl
   have bw:st.bytes.length=32:=by simp[Sha.W8.bytes,Sha.be4]
   refine J4 (J2 ?_)
   simp only[zS,reduceIte,yQ,yW,yX,yZ,yJ,yK,yV]
   refine J4 (J4 (J2 ?_))
   simp only[zS,reduceIte,yQ,yW,yX,yZ,yJ,yK,yV]
   refine Ju (Qw [4,21,22] (fun k f M=>∃(u:Nat)(o:Value),u+k=8∧f=[(4,.slice (some ⟨O,0,none⟩) 8 8),(21,o),(22,.int .i64 (u:Int))]∧Sl M o (J5 (st.bytes.take (4*u)))∧M.get O=some (.cells false 1 (c8 st))∧Grows m' M∧(∀g l c,o=.slice (some ⟨g,0,none⟩) l c→m'.size≤g)) 8 ?_ ?_)
   ·simp only[zS,reduceIte,yQ,yW,yX,yZ,yJ,yK,yV]
    exact⟨0,_,rfl,rfl,.inl ⟨rfl,rfl⟩,k2,Grows.refl _,fun g l c e=>by cases e⟩
   ·rintro k f M ⟨u,o,hu,rfl,ho,q2,a8,ak⟩
    refine J4 (J4 (J2 ?_))
    simp only[zS,reduceIte,yQ,yW,yX,yZ,yJ,yK,yV,zT]
    refine JZ (decide ((u:Int)<8)) (by rfl) (fun hc=>Q1 ?_) (fun hc=>QC ?_)
    ·simp only[zS,reduceIte,yQ,yW,yX,yZ,yJ,yK,yV]
     have aM:u<8:=by have:=of_decide_eq_true hc;omega
     obtain⟨x,hx,az,bu⟩:=c8_byte st ae u aM
     have xi:IntKind.i64.wrap ((u:Int)+1)=((u+1:Nat):Int):=by rw[wr (by omega) (by omega)];omega
     refine J4 (Ju (J4 (J2 ?_)))
     simp only[zS,reduceIte,yQ,yW,yX,yZ,yJ,yK,yV]
     refine Ju (Qw [4,21,22,23] (fun k f M=>∃(c:Nat)(o:Value),c+k=4∧f=[(4,.slice (some ⟨O,0,none⟩) 8 8),(21,o),(22,.int .i64 (u:Int)),(23,.int .i64 (3-(c:Int)))]∧Sl M o (J5 (st.bytes.take (4*u+c)))∧M.get O=some (.cells false 1 (c8 st))∧Grows m' M∧(∀g l c,o=.slice (some ⟨g,0,none⟩) l c→m'.size≤g)) 4 ?_ ?_)
     ·simp only[zS,reduceIte,yQ,yW,yX,yZ,yJ,yK,yV]
      exact⟨0,_,rfl,rfl,ho,q2,a8,ak⟩
     ·clear ho q2 a8 ak
      rintro bD f M ⟨c,o,bJ,rfl,ho,q2,a8,ak⟩
      refine J4 (J4 (J2 ?_))
      simp only[zS,reduceIte,yQ,yW,yX,yZ,yJ,yK,yV,zT]
      refine JZ (decide ((3:Int)-(c:Int)≥0)) (by rfl) (fun hc=>Q1 ?_) (fun hc=>QC ?_)
      ·simp only[zS,reduceIte,yQ,yW,yX,yZ,yJ,yK,yV]
       have aK:c<4:=by have:=of_decide_eq_true hc;omega
       obtain⟨x1,y1,z1⟩:=idx (8*((3:Int)-(c:Int))) (8*(3-c)) (by omega) (by omega)
       have bx:(x:Int).fdiv (2^min (8*((3:Int)-(c:Int))).toNat IntKind.i64.bits)=(x:Int)/2^(8*(3-c)):=by
        rw[ZG,z1,show min (8*(3-c)) 64=8*(3-c) by omega]
        exact Int.fdiv_eq_ediv_of_nonneg _ (Int.le_of_lt (Int.pow_pos (by decide)))
       have bf:(J5 (st.bytes.take (4*u+c))).length≤32:=by simp[J5];omega
       obtain⟨s',m2,b5,aP,av,aD⟩:=ho.app_u8 a8 ak (.int .u8 (bits .and .i64 ((x:Int)/2^(8*(3-c))) 255%256)) (by omega)
       have bd:J5 (st.bytes.take (4*u+c))++[Value.int .u8 (bits .and .i64 ((x:Int)/2^(8*(3-c))) 255%256)]=J5 (st.bytes.take (4*u+(c+1))):=by
        rw[out_byte x c az,←Nat.add_assoc,List.take_add_one,bu c aK]
        simp[J5]
       rw[bd]at aP
       have bv:IntKind.i64.wrap ((3:Int)-(c:Int)-1)=3-((c+1:Nat):Int):=by rw[show(3:Int)-(c:Int)-1=3-((c+1:Nat):Int) by omega];unfold IntKind.wrap;simp only[ZG];simp[IntKind.signed];omega
       have bt:m2.get O=some (.cells false 1 (c8 st)):=av.2 _ _ k2
       unfold c8 at q2
       replace hx:[Value.int .i64 (st.a:Int),.int .i64 (st.b:Int),.int .i64 (st.c:Int),.int .i64 (st.d:Int),.int .i64 (st.e:Int),.int .i64 (st.f:Int),.int .i64 (st.g:Int),.int .i64 (st.h:Int)][u]?=some (.int .i64 (x:Int)):=hx
       refine J4 (Ju (J2 ?_))
       simp only[zS,reduceIte,yQ,yW,yX,yZ,yJ,yK,yV,zT,q2,hx,x1,y1,bx,wrap_u8,qe,b5]
       refine⟨by omega,?_⟩
       refine J2 ?_
       simp only[zS,reduceIte,yQ,yW,yX,yZ,yJ,yK,yV,bv]
       exact⟨bD-1,⟨c+1,s',by omega,rfl,aP,bt,av,aD⟩,by omega⟩
      ·simp only[zS,reduceIte,yQ,yW,yX,yZ,yJ,yK,yV]
       have aK:c=4:=by have:=of_decide_eq_false hc;omega
       subst aK
       refine J2 ?_
       simp only[zS,reduceIte,yQ,yW,yX,yZ,yJ,yK,yV,xi]
       exact⟨k-1,⟨u+1,o,by omega,rfl,ho,q2,a8,ak⟩,by omega⟩
    ·simp only[zS,reduceIte,yQ,yW,yX,yZ,yJ,yK,yV]
     have aM:u=8:=by have:=of_decide_eq_false hc;omega
     subst aM
     rw[List.take_of_length_le (by omega),aU]at ho
     have aN:=Sha.sum_length s.data.toList
     obtain⟨go,rfl,bq⟩:=ho.at (by simp[J5,aN])
     refine J4 (J2 ?_)
     simp only[zS,reduceIte,yQ,yW,yX,yZ,yJ,yK,yV,zT,to_str (n:=(J5 (Sha.sum s.data.toList)).length) bq (by simp[J5])]
     refine X6 ?_
     simp only[zS,reduceIte,yQ,yW,yX,yZ,yJ,yK,yV,sAnswer,sAnswer.sRes]
     exact af.trans a8
end Go.Proofs.YthohbneadomgdaaGreatDoor
