import Derived.Test.YthohbneadomgdaaGreatDoorVisi08
import Derived.Test.YthohbneadomgdaaGreatDoorVisi01
set_option linter.all false
set_option maxRecDepth 100000
set_option maxHeartbeats 16000000
open Nat renaming reduceLT→yQ,reduceEqDiff→yK,reduceAdd→yV,reduceSub→yY,reduceMul→yU
open Int renaming reduceToNat→yW,reduceLE→yX,reduceEq→yZ,reduceLT→yJ
open Go.Proofs.Tryz renaming prog→qc,underlying172→qe,underlying9→qf,underlying22→qp,underlying5→qq
open List renaming getElem?_eq_getElem→qd,flatMap_cons→qi,drop_zero→qj,mem_of_getElem?→qk,drop_eq_getElem_cons→qm
open Array renaming length_toList→qh,getElem?_toList→qu
open Bool renaming false_eq_true→qo
open Nat renaming le_of_ble_eq_true→qt,zero_add→qv,le_refl→qw,zero_le→qx,add_mul→qy
namespace Go.Proofs.YthohbneadomgdaaGreatDoor.Abs
open Go Go.RowKit
def pos:List Nat→Nat→Option Nat
 | [],_=>none
 |x::r,b=>if b=x then some 0 else match pos r b with
  |some c=>some (c+1)
  |none=>none
section
variable {P : Program} {n k : Nat} {f : AL} {m : Mem}
def AK(P:Program)(k:Nat)(c:Code)(Q:Exit→List Value→Mem→Prop)(a:List Value)(m:Mem):Prop:=
 ∀(ι₀:Nat→Loc)(m₀:Mem)(w₀:World)(ι:Nat→Loc)(act:Act)(w:World),m₀.size≤k→Step ι₀ m₀ w₀ ι m w→ARel m.Has ι a act→Rel ι m w→c.wp P (K6 ι₀ m₀ w₀ Q) act w
def CW(P:Program)(n k:Nat) [c:Box Code] [Q:Box (Exit→AL→Mem→Prop)] (f:AL)(m:Mem):Prop:=
 ∀a,Knows n f a→AK P k c.k (fun e a' m'=>∃f',Knows n f' a'∧Q.k e f' m') a m
variable {Q : Exit → AL → Mem → Prop}
def cThen [next:Box (AL→Mem→Prop)] [Q:Box (Exit→AL→Mem→Prop)]:Exit→AL→Mem→Prop
 |.normal,f,m=>next.k f m
 |e,f,m=>Q.k e f m
def cBlock(i:Nat) [Q:Box (Exit→AL→Mem→Prop)]:Exit→AL→Mem→Prop
 |.exit j,f,m=>if j=i then Q.k .normal f m else Q.k (.exit j) f m
 |e,f,m=>Q.k e f m
theorem CW.of_SW{c:Code}(h:SW P n c Q f m):@CW P n k ⟨c⟩ ⟨Q⟩ f m:=fun a ha ι₀ m₀ w₀ ι act w _=>h a ha ι₀ m₀ w₀ ι act w
theorem J3(h:Q .normal f m):@CW P n k ⟨.skip⟩ ⟨Q⟩ f m:=.of_SW (Q5 h)
theorem Jn{i:Nat}(h:Q (.exit i) f m):@CW P n k ⟨.exit i⟩ ⟨Q⟩ f m:=.of_SW (QF h)
theorem QC(h:Q .ret f m):@CW P n k ⟨.ret⟩ ⟨Q⟩ f m:=.of_SW (Xa h)
theorem J1{id:Nat}{ops:Array Oper}(h:@sOpsB P n ops.toList ⟨Q .normal⟩ ops.toList f m):@CW P n k ⟨.region id ops false⟩ ⟨Q⟩ f m:=.of_SW (J2 h)
theorem QG{id:Nat}{ops:Array Oper}(hmix:P.follows .mixedOrders=true)(q:Nat)(hq:Ql ops q=true)(hqs:Nat.ble q ops.size=true)
 (h:@sHeadB P n ops.toList m ⟨fun f' M=>@sOpsB P n ops.toList ⟨Q .normal⟩ (ops.toList.drop q) f' M⟩ (ops.toList.take q) false f m):@CW P n k ⟨.region id ops true⟩ ⟨Q⟩ f m:=.of_SW (Z7 hmix q hq hqs h)
theorem CW_draw2{id:Nat}{ops:Array Oper}(hmix:P.follows .mixedOrders=true)(q:Nat)(hq:drawOK2 ops q=true)
 (h:@sHeadB P n ops.toList m ⟨fun f' M=>@sOpsB P n ops.toList ⟨Q .normal⟩ (ops.toList.drop q) f' M⟩ (ops.toList.take q) false f m):@CW P n k ⟨.region id ops true⟩ ⟨Q⟩ f m:=.of_SW (SW_draw2 hmix q hq h)
def sQB(P:Program)(n:Nat)(all:List Oper)(m:Mem)(J:List Nat) [K:Box (AL→Mem→Prop)]:List Oper→AL→Mem→Prop
 | [],_,_=>False
 |oq::r,f',M=>@QT _ (sMem P (AL.look f') M oq.op) ⟨fun p=>Zy P all f' m p.2 J∧@sPut n oq.dst p.1 f' ⟨fun f''=>@sOpsB P n all K r f'' p.2⟩⟩
theorem CW_draw4{id:Nat}{ops:Array Oper}(hmix:P.follows .mixedOrders=true)(q:Nat)(J:List Nat)(hq:V8 P ops q J=true)
 (h:@sHeadB P n ops.toList m ⟨fun f' M=>@sQB P n ops.toList m J ⟨Q .normal⟩ (ops.toList.drop q) f' M⟩ (ops.toList.take q) false f m):@CW P n k ⟨.region id ops true⟩ ⟨Q⟩ f m:=by
 have E:q<ops.toList.length:=by
  have:=hq
  simp only[V8,Bool.and_eq_true]at this
  have:=qt this.1.1.2
  rw[qh]
  omega
 rw[qm E]at h
 exact .of_SW (SW_draw4 hmix q J hq (oq:=ops.toList[q]) (by rw[←qu];exact qd E) h)
def sQB6(P:Program)(n:Nat)(all:List Oper)(m:Mem)(J:List Nat) [K:Box (AL→Mem→Prop)]:List Oper→AL→Mem→Prop
 | [],_,_=>False
 |oq::r,f',M=>@QT _ (sCallee (AL.look f') oq.op) ⟨fun p=>Qg P p.1=true∧∃R,Spec P p.1 p.2 M R∧@Later ⟨∀u M',R u M'→Zy P all f' m M' J∧@sPut n oq.dst u f' ⟨fun f''=>@sOpsB P n all K r f'' M'⟩⟩⟩
theorem SW_draw4L [Defs] {P:Program}{n:Nat}{Q:Exit→AL→Mem→Prop}{f:AL}{m:Mem}{id:Nat}{ops:Array Oper}(hmix:P.follows .mixedOrders=true)(q:Nat)(J:List Nat)(hq:V8 P ops q J=true)
 (h:@sHeadB P n ops.toList m ⟨fun f' M=>@sQB P n ops.toList m J ⟨Q .normal⟩ (ops.toList.drop q) f' M⟩ (ops.toList.take q) false f m):SW P n (.region id ops true) Q f m:=by
 have E:q<ops.toList.length:=by
  have:=hq
  simp only[V8,Bool.and_eq_true]at this
  have:=qt this.1.1.2
  rw[qh]
  omega
 rw[qm E]at h
 exact SW_draw4 hmix q J hq (oq:=ops.toList[q]) (by rw[←qu];exact qd E) h
theorem SW_draw6L [Defs] {P:Program}{n:Nat}{Q:Exit→AL→Mem→Prop}{f:AL}{m:Mem}{id:Nat}{ops:Array Oper}(hmix:P.follows .mixedOrders=true)(q:Nat)(J:List Nat)(hq:V8 P ops q J=true)
 (h:@sHeadB P n ops.toList m ⟨fun f' M=>@sQB6 P n ops.toList m J ⟨Q .normal⟩ (ops.toList.drop q) f' M⟩ (ops.toList.take q) false f m):SW P n (.region id ops true) Q f m:=by
 have E:q<ops.toList.length:=by
  have:=hq
  simp only[V8,Bool.and_eq_true]at this
  have:=qt this.1.1.2
  rw[qh]
  omega
 rw[qm E]at h
 exact SW_draw6 hmix q J hq (oq:=ops.toList[q]) (by rw[←qu];exact qd E) h
theorem CW.mono{c:Code}{Q':Exit→AL→Mem→Prop}(h:@CW P n k ⟨c⟩ ⟨Q⟩ f m)(hq:∀e f m,Q e f m→Q' e f m):@CW P n k ⟨c⟩ ⟨Q'⟩ f m:=
 fun a ha ι₀ m₀ w₀ ι act w h0 hs hA hr=>wp_mono (h a ha ι₀ m₀ w₀ ι act w h0 hs hA hr) fun _ _ _ ⟨κ,a',m',⟨f',h1,h2⟩,h3⟩=>⟨κ,a',m',⟨f',h1,hq _ _ _ h2⟩,h3⟩
theorem J0{x y:Code}(h:@CW P n k ⟨x⟩ ⟨@cThen ⟨@CW P n k ⟨y⟩ ⟨Q⟩⟩ ⟨Q⟩⟩ f m):@CW P n k ⟨.seq x y⟩ ⟨Q⟩ f m:=by
 intro a ha ι₀ m₀ w₀ ι act w h0 hs hA hr
 refine wp_seq (wp_mono (h a ha ι₀ m₀ w₀ ι act w h0 hs hA hr) ?_)
 rintro e E w' ⟨κ,Z,m',⟨f',O,h2⟩,I,U,Y⟩
 cases e with
 |normal=>exact h2 Z O ι₀ m₀ w₀ κ E w' h0 Y I U
 |_=>exact⟨κ,Z,m',⟨f',O,h2⟩,I,U,Y⟩
theorem Qd{c:Operand}{x y:Code}(t:Bool)(hc:AL.look f c=some (.bool t))(ht:t=true→@CW P n k ⟨x⟩ ⟨Q⟩ f m)(hf:t=false→@CW P n k ⟨y⟩ ⟨Q⟩ f m):@CW P n k ⟨.cond c x y⟩ ⟨Q⟩ f m:=by
 intro a E ι₀ m₀ w₀ ι act w Y hs I O
 have U:=Jk I (E.look c _ hc)
 generalize hv:act.eval c=v at U
 cases U
 exact wp_cond_split hv (fun h=>ht h a E ι₀ m₀ w₀ ι act w Y hs I O) (fun h=>hf h a E ι₀ m₀ w₀ ι act w Y hs I O)
theorem J7{i:Nat}{c:Code}(h:@CW P n k ⟨c⟩ ⟨@cBlock i ⟨Q⟩⟩ f m):@CW P n k ⟨.block i c⟩ ⟨Q⟩ f m:=by
 intro a ha ι₀ m₀ w₀ ι act w h0 hs hA hr
 refine wp_block (wp_mono (h a ha ι₀ m₀ w₀ ι act w h0 hs hA hr) ?_)
 rintro e a2 w' ⟨κ,Z,m',⟨Y,I,h2⟩,E,O,U⟩
 cases e with
 |exit j=>
  simp only[cBlock]at h2
  simp only[Exit.inBlock]
  split
  ·rename_i e;rw[if_pos e]at h2;exact⟨κ,Z,m',⟨Y,I,h2⟩,E,O,U⟩
  ·rename_i e;rw[if_neg e]at h2;exact⟨κ,Z,m',⟨Y,I,h2⟩,E,O,U⟩
 |_=>exact⟨κ,Z,m',⟨Y,I,h2⟩,E,O,U⟩
end
def Within(m:Mem):Prop:=∀b x,m.get b=some x→ClBlk m.Has x
section
variable {P : Program} {n k₀ : Nat} {f f' : AL} {b : Mem} {l : List (Option (Option Blk))}
variable {Q : Exit → AL → Mem → Prop}
theorem Rel.within{m:Mem}{ι:Nat→Loc}{w:World}(h:Rel ι m w):Within m:=h.clBlk
end
def AL.keep(f:AL):List Nat→AL
 | []=>[]
 |t::r=>match AL.get f t with
  |some v=>(t,v)::AL.keep f r
  |none=>AL.keep f r
theorem AL.keep_get(f:AL):∀(l:List Nat)(t:Nat)(v:Value),AL.get (AL.keep f l) t=some v→AL.get f t=some v
 | [],t,v,h=>by cases h
 |s::r,t,v,h=>by
  unfold AL.keep at h
  split at h
  ·rename_i u hu
   simp only[AL.get]at h
   split at h
   ·rename_i e;rw[←e,hu];exact h
   ·exact AL.keep_get f r t v h
  ·exact AL.keep_get f r t v h
section
variable {P : Program} {n : Nat} {Q : Exit → AL → Mem → Prop} {f : AL} {m : Mem}
theorem Qy{c:Code}(slots:List Nat)(I:Nat→AL→Mem→Prop)(k₀:Nat)(h₀:I k₀ (AL.keep f slots) m)
 (round:∀k f m,I k f m→SW P n c (sThen (fun f' m'=>∃k',I k' (AL.keep f' slots) m'∧k'<k) Q) f m):SW P n (.loop c) Q f m:=by
 refine SW.less (f':=AL.keep f slots) ?_ (AL.keep_get f slots)
 refine SW_loop (fun k f m=>∃E,I k E m∧∀t v,AL.get E t=some v→AL.get f t=some v) k₀ ⟨_,h₀,fun _ _ h=>h⟩ ?_
 rintro k f m ⟨E,O,hs⟩
 refine SW.less (SW.mono (round k E m O) ?_) hs
 rintro e f' m' h
 cases e with
 |normal=>
  obtain⟨k',U,h2⟩:=h
  exact⟨k',⟨_,U,AL.keep_get f' slots⟩,h2⟩
 |_=>exact h
theorem SW_mid{x y:Code}(slots:List Nat)(I:AL→Mem→Prop)(h1:SW P n x (sThen (fun f m=>I (AL.keep f slots) m) Q) f m)(h2:∀f m,I f m→SW P n y Q f m):SW P n (.seq x y) Q f m:=by
 refine J4 (h1.mono ?_)
 rintro e E m' h
 cases e with
 |normal=>exact(h2 _ _ h).less (AL.keep_get E slots)
 |_=>exact h
theorem SW_keep{c:Code}(slots:List Nat)(h:SW P n c Q (AL.keep f slots) m):SW P n c Q f m:=h.less (AL.keep_get f slots)
end
def Grows(m m':Mem):Prop:=m.size≤m'.size∧∀b x,m.get b=some x→m'.get b=some x
theorem Grows.refl(m:Mem):Grows m m:=⟨qw _,fun _ _ h=>h⟩
theorem Grows.trans{m m' m'':Mem}(h:Grows m m')(k:Grows m' m''):Grows m m'':=⟨Nat.le_trans h.1 k.1,fun b x hb=>k.2 b x (h.2 b x hb)⟩
theorem Grows.push{m m':Mem}(h:Grows m m')(x:Blk):Grows m (m'.push x):=
 ⟨by simp only[Mem.size_push];have:=h.1;omega,fun b y hb=>by
  have h1:=h.2 b y hb
  rw[Mem.get_push_old (Mem.get_lt h1)];exact h1⟩
theorem Grows.set{m m':Mem}(h:Grows m m'){g:Nat}(hg:m.size≤g)(o:Option Blk):Grows m (m'.set g o):=
 ⟨by simp only[Mem.size_set];exact h.1,fun b y hb=>by
  have:=Mem.get_lt hb
  rw[Mem.get_set_ne (by omega)];exact h.2 b y hb⟩
theorem hmix:qc.follows .mixedOrders=true:=by kernel_rfl
theorem Zw:qc.info? 3=some Tryz.t3:=by kernel_rfl
theorem Zv:qc.info? 5=some Tryz.t5:=by kernel_rfl
theorem inf_str:qc.info? 9=some Tryz.t9:=by kernel_rfl
theorem XZ:Tryz.t3.size=1:=rfl
theorem int_bytes:Tryz.t3.bytes=8:=rfl
theorem int_zero:Tryz.t3.zero=some (.int .i64 0):=rfl
theorem XA:Tryz.t5.size=1:=rfl
theorem u8_bytes:Tryz.t5.bytes=1:=rfl
theorem u8_zero:Tryz.t5.zero=some (.int .u8 0):=rfl
theorem str_size:Tryz.t9.size=1:=rfl
theorem row_int(k:IntKind):(TypeDesc.int k).isRow=false:=rfl
theorem row_slice(e:TypeId):(TypeDesc.slice e).isRow=false:=rfl
theorem cells_int(k:IntKind)(x:Int):(Value.int k x).cells.toList=[.int k x]:=rfl
theorem one_int(k:IntKind)(x:Int):Jo [Value.int k x]=true:=rfl
theorem new_one{P:Program}{t e:TypeId}{i:TypeInfo}{z:Value}(hu:P.underlying t=some (.slice e))(hi:P.info? e=some i)(hz:i.zero=some z)(hs:i.size=1)(hf:flat 3 z=true)(hzc:z.cells.toList=[z])(hz1:Jo [z]=true)
 (v:Value) (hv:v.cells.toList=[v]) (h1:Jo [v]=true):JF P t 1 [(0,v)]=some (.cells false 1 [v]):=by
 unfold JF
 simp only[hu,hi,hz,hs,hf,hzc,hz1,hv,h1]
 simp[U2,Xz,hv,setL,h1]
theorem app_one{P:Program}{t e:TypeId}{i:TypeInfo}{z:Value}(hu:P.underlying t=some (.slice e))(hi:P.info? e=some i)(hz:i.zero=some z)(hs:i.size=1)(hzc:z.cells.toList.length=1)
 (m:Mem) (v:Value) {g n:Nat} {xs:List Value} (hg:m.get g=some (.cells false 1 xs)) (hn:n=xs.length) (hb:(n+1)*i.bytes≤140737488355328) (hb2:n+1≤140737488355328):
 JT P (m.push (.cells false 1 [v])) t t (.slice (some ⟨g,0,none⟩) n n) (.slice (some ⟨m.size,0,none⟩) 1 1)=
  some (.slice (some ⟨m.size+1,0,none⟩) (n+1) (n+1),((m.push (.cells false 1 [v])).set g none).push (.cells false 1 (xs++[v]))):=by
 subst hn
 have E:(m.push (.cells false 1 [v])).get g=some (.cells false 1 xs):=by rw[Mem.get_push_old (Mem.get_lt hg)];exact hg
 unfold JT aSrc
 simp only[hu,hi,hz,hs,hzc,if_true,Mem.get_push_new,E]
 simp[hb,hb2]
theorem app_nil{P:Program}{t e:TypeId}{i:TypeInfo}{z:Value}(hu:P.underlying t=some (.slice e))(hi:P.info? e=some i)(hz:i.zero=some z)(hs:i.size=1)(hzc:z.cells.toList.length=1)
 (m:Mem) (v:Value) (hb:i.bytes≤140737488355328):
 JT P (m.push (.cells false 1 [v])) t t (.slice none 0 0) (.slice (some ⟨m.size,0,none⟩) 1 1)=
  some (.slice (some ⟨m.size+1,0,none⟩) 1 1,(m.push (.cells false 1 [v])).push (.cells false 1 [v])):=by
 unfold JT aSrc
 simp only[hu,hi,hz,hs,hzc,if_true,Mem.get_push_new]
 simp[hb]
def Sl(m:Mem)(v:Value)(xs:List Value):Prop:=(v=.slice none 0 0∧xs=[])∨∃g,v=.slice (some ⟨g,0,none⟩) xs.length xs.length∧m.get g=some (.cells false 1 xs)
theorem Sl.app{P:Program}{t e:TypeId}{i:TypeInfo}{z:Value}(hu:P.underlying t=some (.slice e))(hi:P.info? e=some i)(hz:i.zero=some z)(hs:i.size=1)(hzc:z.cells.toList.length=1)
 {m₀ m:Mem} {s:Value} {xs:List Value} (h:Sl m s xs) (hgr:Grows m₀ m) (hnew:∀g l c,s=.slice (some ⟨g,0,none⟩) l c→m₀.size≤g) (v:Value) (hb:(xs.length+1)*i.bytes≤140737488355328) (hb2:xs.length+1≤140737488355328):
 ∃s' m',JT P (m.push (.cells false 1 [v])) t t s (.slice (some ⟨m.size,0,none⟩) 1 1)=some (s',m')∧Sl m' s' (xs++[v])∧Grows m₀ m'∧(∀g l c,s'=.slice (some ⟨g,0,none⟩) l c→m₀.size≤g):=by
 rcases h with⟨rfl,rfl⟩|⟨g,rfl,E⟩
 ·refine⟨_,_,app_nil hu hi hz hs hzc m v (by simpa using hb),.inr ⟨m.size+1,by simp,?_⟩,(hgr.push _).push _,fun g l c e=>?_⟩
  ·have:=Mem.get_push_new (m.push (.cells false 1 [v])) (.cells false 1 [v])
   rw[Mem.size_push]at this
   simpa using this
  ·cases e;have:=hgr.1;omega
 ·refine⟨_,_,app_one hu hi hz hs hzc m v E rfl hb hb2,.inr ⟨m.size+1,by simp,?_⟩,((hgr.push _).set (hnew g _ _ rfl) _).push _,fun g l c e=>?_⟩
  ·have:=Mem.get_push_new ((m.push (.cells false 1 [v])).set g none) (.cells false 1 (xs++[v]))
   rw[Mem.size_set,Mem.size_push]at this
   exact this
  ·cases e;have:=hgr.1;omega
theorem Sl.appL{P:Program}{t e:TypeId}{i:TypeInfo}{z:Value}(hu:P.underlying t=some (.slice e))(hi:P.info? e=some i)(hz:i.zero=some z)(hs:i.size=1)(hzc:z.cells.toList.length=1)
 {m₀ m:Mem} {s:Value} {xs ys:List Value} {g2:Nat} {ro:Bool} (h:Sl m s xs) (hy:m.get g2=some (.cells ro 1 ys)) (hy0:0<ys.length) (hgr:Grows m₀ m) (hnew:∀g l c,s=.slice (some ⟨g,0,none⟩) l c→m₀.size≤g) (hb:(xs.length+ys.length)*i.bytes≤140737488355328) (hb2:xs.length+ys.length≤140737488355328):
 ∃s' m',JT P m t t s (.slice (some ⟨g2,0,none⟩) ys.length ys.length)=some (s',m')∧Sl m' s' (xs++ys)∧Grows m₀ m'∧(∀g l c,s'=.slice (some ⟨g,0,none⟩) l c→m₀.size≤g)∧
  (∀g x,(∀l c,s≠ .slice (some ⟨g,0,none⟩) l c)→m.get g=some x→m'.get g=some x):=by
 have E:¬ys.length=0:=by omega
 rcases h with⟨rfl,rfl⟩|⟨g,rfl,O⟩
 ·refine⟨.slice (some ⟨m.size,0,none⟩) ys.length ys.length,m.push (.cells false 1 ys),?_,.inr ⟨m.size,by simp,?_⟩,hgr.push _,fun g l c e=>?_,fun g x _ hx=>?_⟩
  ·unfold JT aSrc
   simp only[List.length_nil,qv]at hb hb2
   simp only[hu,hi,hz,hs,hzc,if_true,hy,if_neg E]
   simp[hb,hb2,show¬ys=[]from fun e=>by rw[e]at hy0;simp at hy0]
  ·simpa using Mem.get_push_new m (.cells false 1 ys)
  ·cases e;exact hgr.1
  ·rw[Mem.get_push_old (Mem.get_lt hx)];exact hx
 ·refine⟨.slice (some ⟨m.size,0,none⟩) (xs.length+ys.length) (xs.length+ys.length),(m.set g none).push (.cells false 1 (xs++ys)),?_,.inr ⟨m.size,by simp,?_⟩,(hgr.set (hnew g _ _ rfl) _).push _,fun g l c e=>?_,fun g' x hg' hx=>?_⟩
  ·unfold JT aSrc
   simp only[hu,hi,hz,hs,hzc,if_true,hy,O,if_neg E]
   simp[hb,hb2,hy0,show¬ys=[]from fun e=>by rw[e]at hy0;simp at hy0]
  ·have:=Mem.get_push_new (m.set g none) (.cells false 1 (xs++ys))
   rw[Mem.size_set]at this
   exact this
  ·cases e;exact hgr.1
  ·have I:g≠g':=fun e=>hg' _ _ (by rw[e])
   rw[Mem.get_push_old (by rw[Mem.size_set];exact Mem.get_lt hx),Mem.get_set_ne I]
   exact hx
theorem index_str(s:ByteArray)(i:Int)(k:Nat)(h:i=k)(hk:k<s.size):KA qc 9 (.string s) (.int .i64 i)=some (.int .u8 ((s.data.toList.getD k 0).toNat:Int)):=by
 subst h
 unfold KA
 have E:k<s.data.toList.length:=by rw[qh];exact hk
 simp only[qf,if_pos (show(0:Int)≤(k:Int) by omega),Int.toNat_natCast,List.getD,qd E,Option.getD_some]
theorem new_bytes(s:ByteArray)(hs:JC s≤140737488355328):VT qc 9 172 s=some (.cells false 1 (J5 s.data.toList)):=by
 unfold VT
 simp only[qf,qe,qq,if_pos hs]
 rfl
theorem Sl.at{m:Mem}{v:Value}{xs:List Value}(h:Sl m v xs)(hn:0<xs.length):∃g,v=.slice (some ⟨g,0,none⟩) xs.length xs.length∧m.get g=some (.cells false 1 xs):=by
 rcases h with⟨_,rfl⟩|h
 ·simp at hn
 ·exact h
theorem Sl.block{m:Mem}{g n:Nat}{xs:List Value}(hn:n=xs.length)(h:m.get g=some (.cells false 1 xs)):Sl m (.slice (some ⟨g,0,none⟩) n n) xs:=.inr ⟨g,by rw[hn],h⟩
theorem wrap_u8(x:Int):IntKind.u8.wrap x=x%256:=by
 have E:IntKind.u8.signed=false:=rfl
 have I:IntKind.u8.bits=8:=rfl
 unfold IntKind.wrap
 simp only[E,I,Bool.false_and,qo,if_false]
 rfl
theorem UV:∀l:List UInt8,ZT (J5 l)=some l
 | []=>rfl
 |b::l=>by
  have e:J5 (b::l)=Value.int .u8 (b.toNat:Int)::J5 l:=rfl
  rw[e]
  simp only[ZT,UV l]
  simp
theorem to_str{get:Nat→Option Blk}{g n:Nat}{ro:Bool}{st:Nat}{l:List UInt8}(h:get g=some (.cells ro st (J5 l)))(hn:n=l.length):Xw qc get 172 9 (.slice (some ⟨g,0,none⟩) n n)=some (.string (str l)):=by
 subst hn
 have hl:(J5 l).length=l.length:=by simp[J5]
 unfold Xw
 simp only[qf,qe,qq,h,qj,qv,hl,qw,if_true]
 rw[List.take_of_length_le (by omega),UV]
 rfl
theorem slice_u8{get:Nat→Option Blk}{b o len cap:Nat}{ro:Bool}{cs:List Value}(hb:get b=some (.cells ro 1 cs))(l h:Int)(h1:0≤l)(h2:l≤h)(h3:h≤cap):
 Q1 qc get 172 (.slice (some ⟨b,o,none⟩) len cap) (some (.int .i64 l)) (some (.int .i64 h))=some (.slice (some ⟨b,o+l.toNat,none⟩) (h.toNat-l.toNat) (cap-l.toNat)):=by
 unfold Q1 X9
 simp only[qe,Zv,XA,hb,if_pos (And.intro (Int.le_trans h1 h2) h3),if_pos (And.intro h1 h2),if_true,Nat.mul_one]
theorem new_int8(a b c d e f g h:Int):JF qc 22 8 [(0,.int .i64 a),(1,.int .i64 b),(2,.int .i64 c),(3,.int .i64 d),(4,.int .i64 e),(5,.int .i64 f),(6,.int .i64 g),(7,.int .i64 h)]=
 some (.cells false 1 [.int .i64 a,.int .i64 b,.int .i64 c,.int .i64 d,.int .i64 e,.int .i64 f,.int .i64 g,.int .i64 h]):=by kernel_rfl
theorem UE{m:Mem}{g:Nat}{cs:List Value}(hg:m.get g=some (.cells false 1 cs)){i:Nat}(hi:i<cs.length)(x:Int):
 Qf qc m 3 (.pointer (some ⟨g,i,none⟩)) (.int .i64 x)=some (m.set g (some (.cells false 1 (cs.set i (.int .i64 x))))):=by
 unfold Qf
 simp only[hg,Zw,XZ,cells_int,one_int]
 rw[if_pos ⟨rfl,by simp;omega,trivial⟩]
 rfl
theorem wr{x:Int}(h0:0≤x)(h1:x≤4611686018427387904):IntKind.i64.wrap x=x:=by
 obtain⟨n,rfl⟩:=Int.eq_ofNat_of_zero_le h0
 exact(idx (n:Int) n rfl (by omega)).1
theorem aStr_add(a b:ByteArray):aStr .add a b=if JC a+JC b≤4611686018427387904 then some (.string (bcat a b))else none:=rfl
theorem aStr_eql(a b:ByteArray):aStr .eql a b=some (.bool (UW a b)):=rfl
theorem aStr_neq(a b:ByteArray):aStr .neq a b=some (.bool (!UW a b)):=rfl
theorem Zl(l:List UInt8):JC (str l)=l.length:=rfl
theorem bcat_str(l:List UInt8)(s:ByteArray):bcat (str l) s=str (l++s.data.toList):=rfl
theorem str_list(l:List UInt8):(str l).data.toList=l:=rfl
theorem ZV(s:ByteArray):JC s=s.size:=by rw[JC,Array.length_toList];rfl
theorem Uo(l:List UInt8)(hl:l.length≤140737488355328):VT qc 9 172 (str l)=some (.cells false 1 (J5 l)):=new_bytes (str l) hl
theorem slice_str{get:Nat→Option Blk}(s:ByteArray)(h:Int)(h1:0≤h)(h2:h≤(JC s:Nat)):
 Q1 qc get 9 (.string s) none (some (.int .i64 h))=some (.string (bsub s 0 h.toNat)):=by
 unfold Q1 X9
 simp only[qf,if_pos (And.intro h1 h2)]
theorem store_u8{m:Mem}{g:Nat}{cs:List Value}(hg:m.get g=some (.cells false 1 cs)){i:Nat}(hi:i<cs.length)(x:Int):
 Qf qc m 5 (.pointer (some ⟨g,i,none⟩)) (.int .u8 x)=some (m.set g (some (.cells false 1 (cs.set i (.int .u8 x))))):=by
 unfold Qf
 simp only[hg,Zv,XA,cells_int,one_int]
 rw[if_pos ⟨rfl,by simp;omega,trivial⟩]
 rfl
theorem aInt_add(k:IntKind)(a b:Int):XV .add k a b=some (.int k (k.wrap (a+b))):=rfl
theorem aInt_sub(k:IntKind)(a b:Int):XV .sub k a b=some (.int k (k.wrap (a-b))):=rfl
theorem aInt_mul(k:IntKind)(a b:Int):XV .mul k a b=some (.int k (k.wrap (a*b))):=rfl
theorem aInt_quo(k:IntKind)(a b:Int):XV .quo k a b=if b=0 then none else some (.int k (k.wrap (a.tdiv b))):=rfl
theorem aInt_rem(k:IntKind)(a b:Int):XV .rem k a b=if b=0 then none else some (.int k (a.tmod b)):=rfl
theorem aInt_and(k:IntKind)(a b:Int):XV .and k a b=some (.int k (bits .and k a b)):=rfl
theorem aInt_or(k:IntKind)(a b:Int):XV .or k a b=some (.int k (bits .or k a b)):=rfl
theorem aInt_xor(k:IntKind)(a b:Int):XV .xor k a b=some (.int k (bits .xor k a b)):=rfl
theorem aInt_eql(k:IntKind)(a b:Int):XV .eql k a b=some (.bool (a==b)):=rfl
theorem aInt_neq(k:IntKind)(a b:Int):XV .neq k a b=some (.bool (a !=b)):=rfl
theorem aInt_lss(k:IntKind)(a b:Int):XV .lss k a b=some (.bool (decide (a<b))):=rfl
theorem aInt_leq(k:IntKind)(a b:Int):XV .leq k a b=some (.bool (decide (a≤b))):=rfl
theorem aInt_gtr(k:IntKind)(a b:Int):XV .gtr k a b=some (.bool (decide (a>b))):=rfl
theorem aInt_geq(k:IntKind)(a b:Int):XV .geq k a b=some (.bool (decide (a≥b))):=rfl
theorem ZG:IntKind.i64.bits=64:=rfl
theorem new_int(x:Int):JF qc 22 1 [(0,.int .i64 x)]=some (.cells false 1 [.int .i64 x]):=
 new_one qp Zw int_zero XZ rfl rfl rfl _ rfl rfl
theorem new_u8(x:Int):JF qc 172 1 [(0,.int .u8 x)]=some (.cells false 1 [.int .u8 x]):=
 new_one qe Zv u8_zero XA rfl rfl rfl _ rfl rfl
theorem Sl.app_int{m₀ m:Mem}{s:Value}{xs:List Value}(h:Sl m s xs)(hgr:Grows m₀ m)(hnew:∀g l c,s=.slice (some ⟨g,0,none⟩) l c→m₀.size≤g)(v:Value)(hb:xs.length≤17592186044415):
 ∃s' m',JT qc (m.push (.cells false 1 [v])) 22 22 s (.slice (some ⟨m.size,0,none⟩) 1 1)=some (s',m')∧Sl m' s' (xs++[v])∧Grows m₀ m'∧(∀g l c,s'=.slice (some ⟨g,0,none⟩) l c→m₀.size≤g):=
 Sl.app qp Zw int_zero XZ rfl h hgr hnew v (by rw[int_bytes];omega) (by omega)
theorem Sl.app_u8{m₀ m:Mem}{s:Value}{xs:List Value}(h:Sl m s xs)(hgr:Grows m₀ m)(hnew:∀g l c,s=.slice (some ⟨g,0,none⟩) l c→m₀.size≤g)(v:Value)(hb:xs.length≤140737488355327):
 ∃s' m',JT qc (m.push (.cells false 1 [v])) 172 172 s (.slice (some ⟨m.size,0,none⟩) 1 1)=some (s',m')∧Sl m' s' (xs++[v])∧Grows m₀ m'∧(∀g l c,s'=.slice (some ⟨g,0,none⟩) l c→m₀.size≤g):=
 Sl.app qe Zv u8_zero XA rfl h hgr hnew v (by rw[u8_bytes];omega) (by omega)
def zS:=And.intro (And.intro (And.intro (And.intro (And.intro (And.intro (And.intro @alOf.eq_1 @alOf.eq_2) (And.intro @sOps.eq_1 @sOpsB.eq_1)) (And.intro (And.intro @sOpsB.eq_2 @sOp.eq_1) (And.intro @sOne.eq_1 (And.intro @sHOne.eq_1 @sHOp.eq_1)))) (And.intro (And.intro (And.intro @sGuard.eq_1 @sWant.eq_1) (And.intro @sFun.eq_1 (And.intro @sGuarded.eq_1 @sGuarded.eq_2))) (And.intro (And.intro @sGuardedV.eq_1 @sGuardedV.eq_2) (And.intro @isFn.eq_1 (And.intro @isFn.eq_3 @isVal.eq_1))))) (And.intro (And.intro (And.intro (And.intro @isVal.eq_2 @kind.eq_1) (And.intro @kind.eq_2 @kind.eq_3)) (And.intro (And.intro @kind.eq_4 @kind.eq_5) (And.intro @kind.eq_6 (And.intro @kind.eq_7 @kind.eq_8)))) (And.intro (And.intro (And.intro @kind.eq_9 @kind.eq_10) (And.intro @kind.eq_11 (And.intro @kind.eq_12 @kindB.eq_1))) (And.intro (And.intro @kindB.eq_2 @kindB.eq_3) (And.intro @kindB.eq_4 (And.intro @kindC.eq_1 @kindC.eq_2)))))) (And.intro (And.intro (And.intro (And.intro (And.intro @kindT.eq_1 @kindT.eq_2) (And.intro @withV_some @withV_ite)) (And.intro (And.intro @sVal.eq_1 @sVal.eq_2) (And.intro @sVal.eq_3 (And.intro @sVal.eq_4 @sVal.eq_5)))) (And.intro (And.intro (And.intro @sVal.eq_6 @sVal.eq_7) (And.intro @sVal.eq_8 (And.intro @sVal.eq_9 @sVal.eq_11))) (And.intro (And.intro @sVal.eq_12 @sVal.eq_13) (And.intro @sVal.eq_14 (And.intro @sVal.eq_15 @sVal.eq_16))))) (And.intro (And.intro (And.intro (And.intro @sVal.eq_17 @sVal.eq_18) (And.intro @sVal.eq_19 @sVal.eq_20)) (And.intro (And.intro @sNew.eq_1 @sNew.eq_2) (And.intro @sNew.eq_3 (And.intro @sNew.eq_4 @sNew.eq_5)))) (And.intro (And.intro (And.intro @sMem.eq_1 @sMem.eq_2) (And.intro @sMem.eq_3 (And.intro @sMem.eq_4 @sMem.eq_5))) (And.intro (And.intro @sAny.eq_1 @sLookup.eq_1) (And.intro @sEntry.eq_1 (And.intro @sArgs.eq_1 @sArgs.eq_2))))))) (And.intro (And.intro (And.intro (And.intro (And.intro (And.intro @sParts.eq_1 @sParts.eq_2) (And.intro @sBin.eq_1 @sConv.eq_1)) (And.intro (And.intro @sConv.eq_3 @vSlice.eq_1) (And.intro @fOpt.eq_1 (And.intro @fOpt.eq_2 @vPick.eq_1)))) (And.intro (And.intro (And.intro @vPick.eq_2 @vPick.eq_3) (And.intro @vLoad.eq_1 (And.intro @vIndexAddr.eq_1 @vIndex.eq_1))) (And.intro (And.intro @vExtract.eq_1 @vUn.eq_1) (And.intro @sCallee.eq_1 (And.intro @AL.look.eq_1 @AL.look.eq_2))))) (And.intro (And.intro (And.intro (And.intro @AL.look.eq_3 @AL.get.eq_1) (And.intro @AL.get.eq_2 @AL.keep.eq_1)) (And.intro (And.intro @AL.keep.eq_2 @flat.eq_1) (And.intro @flat.eq_2 (And.intro @flat.eq_5 @flat.eq_6)))) (And.intro (And.intro (And.intro @flat.eq_7 @sPut.eq_1) (And.intro @sPut.eq_2 (And.intro @isC.eq_1 @isC.eq_2))) (And.intro (And.intro @sThen.eq_1 @sThen.eq_2) (And.intro @sBlock.eq_1 (And.intro @sBlock.eq_2 @sHead.eq_1)))))) (And.intro (And.intro (And.intro (And.intro (And.intro @sHeadB.eq_1 @sHeadB.eq_2) (And.intro @sEnd.eq_1 @sEnd.eq_3)) (And.intro (And.intro @List.take_succ_cons.{0} @List.take_zero.{0}) (And.intro @List.drop_succ_cons.{0} (And.intro @qj.{0} @aBin.eq_1)))) (And.intro (And.intro (And.intro @aBin.eq_2 @aBin.eq_3) (And.intro @aBin.eq_4 (And.intro @aInt_add @aInt_sub))) (And.intro (And.intro @aInt_mul @aInt_quo) (And.intro @aInt_rem (And.intro @aInt_and @aInt_or))))) (And.intro (And.intro (And.intro (And.intro @aInt_xor @aInt_eql) (And.intro @aInt_neq @aInt_lss)) (And.intro (And.intro @aInt_leq @aInt_gtr) (And.intro @aInt_geq (And.intro @aStr_add @aStr_eql)))) (And.intro (And.intro (And.intro @aStr_neq @qo) (And.intro @Bool.or_true (And.intro @Bool.or_false @if_true.{1}))) (And.intro (And.intro @if_false.{1} @true_and) (And.intro @and_true (And.intro @List.nil_append.{0} @List.append_nil.{0})))))))
def zT:=And.intro (And.intro (And.intro (And.intro qe (And.intro qq Tryz.underlying3)) (And.intro qp (And.intro qf @Zv))) (And.intro (And.intro @Zw (And.intro @inf_str @XA)) (And.intro (And.intro @XZ @Abs.str_size) (And.intro @aIndexAddr.eq_1 @aIndexAddr.eq_2)))) (And.intro (And.intro (And.intro @gLoad.eq_1 (And.intro @Nat.mul_one @qv)) (And.intro @aLen.eq_1 (And.intro @aLen.eq_2 @aLen.eq_3))) (And.intro (And.intro @vCall.eq_1 (And.intro @vBuiltin.eq_1 @vBuiltin.eq_2)) (And.intro (And.intro @vBuiltin.eq_3 @vLen.eq_1) (And.intro @new_int @new_u8))))
section
variable {P : Program} {m : Mem} {B : Nat} {t : TypeId} {cs : List Value}
theorem ARep.inv_int{k:IntKind}(hu:P.underlying t=some (.int k))(h:ARep P m B t cs):∃n,cs=[.int k n]∧(Lit.int k n).wf=true:=by
 cases h<;>simp_all
theorem ARep.inv_string(hu:P.underlying t=some .string)(h:ARep P m B t cs):∃s,cs=[.string s]∧s.size≤B:=by
 cases h<;>simp_all
def Rd(m:Mem)(n:Nat)(v:Value)(k:Nat)(cells:List Value):Prop:=
 ∃a cap,v=.slice a k cap∧cells.length=k*n∧k≤cap∧cap≤maxLen∧(a=none→cap=0)∧∀p,a=some p→∃b,p=⟨b,0,none⟩∧(k≠0→∃ro,m.get b=some (.cells ro n cells))
theorem ARep.inv_slice{e:TypeId}(hu:P.underlying t=some (.slice e))(h:ARep P m B t cs):∃v k cells,cs=[v]∧Rd m (P.cellsOf e) v k cells∧(k≤B∧k*P.bytesOf e≤reachBytes)∧∀i,i<k→ARep P m B e ((cells.drop (i*P.cellsOf e)).take (P.cellsOf e)):=by
 cases h with
 |nil h=>exact⟨_,0,[],rfl,⟨none,0,rfl,by simp,qw _,qx _,fun _=>rfl,fun p hp=>by cases hp⟩,⟨qx _,by simp⟩,fun i hi=>by omega⟩
 |empty h b cap hb hc hB=>exact⟨_,0,[],rfl,⟨_,cap,rfl,by simp,qx _,hc,(fun hp=>by cases hp),fun p hp=>by cases hp;exact⟨b,rfl,fun h=>absurd rfl h⟩⟩,⟨qx _,by simp⟩,fun i hi=>by omega⟩
 | @slice _ e' h b len cap all hb hl hlc hc hB hx=>
   rw[h]at hu
   cases hu
   exact⟨_,len,all,rfl,⟨_,cap,rfl,hl,hlc,hc,(fun hp=>by cases hp),fun p hp=>by cases hp;exact⟨b,rfl,fun _=>⟨true,hb⟩⟩⟩,⟨Nat.le_trans hlc hB.1,Nat.le_trans (Nat.mul_le_mul_right _ hlc) hB.2⟩,hx⟩
 |struct h=>rw[h]at hu;cases hu
 |array h=>rw[h]at hu;cases hu
 |_ h=>rw[h]at hu;cases hu
theorem Ua{α:Type}(f:α→List Value)(wf:α→Prop)(n:Nat):∀(k:Nat)(cells:List Value),cells.length=k*n→(∀i,i<k→∃x,(cells.drop (i*n)).take n=f x∧wf x)→∃xs:List α,xs.length=k∧cells=xs.flatMap f∧∀x∈xs,wf x
 |0,cells,h,_=>⟨[],rfl,by simpa using h,fun x hx=>by simp at hx⟩
 |k+1,cells,h,hx=>by
  rw[qy,Nat.one_mul]at h
  obtain⟨x,h1,h2⟩:=hx 0 (by omega)
  obtain⟨xs,g1,g2,g3⟩:=Ua f wf n k (cells.drop n) (by rw[List.length_drop];omega) (by
   intro i hi
   obtain⟨y,k1,k2⟩:=hx (i+1) (by omega)
   refine⟨y,?_,k2⟩
   rw[←k1,List.drop_drop,qy,Nat.one_mul,Nat.add_comm])
  refine⟨x::xs,by simp[g1],?_,fun y hy=>?_⟩
  ·rw[qi,←g2,←h1,Nat.zero_mul,qj,List.take_append_drop]
  ·rcases List.mem_cons.1 hy with rfl|hy
   ·exact h2
   ·exact g3 y hy
theorem ARep.list{α:Type}(f:α→List Value)(wf:α→Prop){e:TypeId}{n:Nat}(hu:P.underlying t=some (.slice e))(hn:P.cellsOf e=n)(he:∀cs,ARep P m B e cs→∃x,cs=f x∧wf x)(h:ARep P m B t cs):
 ∃v xs,cs=[v]∧Rd m n v (List.length xs) (xs.flatMap f)∧(xs.length≤B∧xs.length*P.bytesOf e≤reachBytes)∧∀x∈xs,wf x:=by
 subst hn
 obtain⟨v,k,cells,rfl,E,hB,hx⟩:=h.inv_slice hu
 have hl:cells.length=k*P.cellsOf e:=by obtain⟨_,_,_,h,_⟩:=E;exact h
 obtain⟨xs,rfl,rfl,I⟩:=Ua f wf _ k cells hl fun i hi=>he _ (hx i hi)
 exact⟨v,xs,rfl,E,hB,I⟩
end
theorem Rd.len{m:Mem}{n k:Nat}{v:Value}{cells:List Value}(h:Rd m n v k cells):∃a cap,v=.slice a k cap:=by
 obtain⟨a,cap,rfl,_⟩:=h;exact⟨a,cap,rfl⟩
theorem Rd.at{m:Mem}{n k cap:Nat}{a:Option Addr}{cells:List Value}(h:Rd m n (.slice a k cap) k cells)(hk:0<k):∃b ro,a=some ⟨b,0,none⟩∧m.get b=some (.cells ro n cells):=by
 obtain⟨U,cap',e,_,h2,_,E,I⟩:=h
 cases e
 cases a with
 |none=>have:=E rfl;omega
 |some p=>
  obtain⟨b,rfl,hb⟩:=I p rfl
  obtain⟨ro,O⟩:=hb (by omega)
  exact⟨b,ro,rfl,O⟩
theorem flatMap_at{α:Type}(f:α→List Value)(n:Nat):∀(xs:List α)(i:Nat)(x:α),(∀x∈xs,(f x).length=n)→xs[i]?=some x→((xs.flatMap f).drop (i*n)).take n=f x
 | [],i,x,_,h=>by simp at h
 |y::r,0,x,hl,h=>by
  simp at h;subst h
  rw[Nat.zero_mul,qj,qi,←hl y (by simp),List.take_left']
  rfl
 |y::r,i+1,x,hl,h=>by
  have:=flatMap_at f n r i x (fun x hx=>hl x (by simp[hx])) (by simpa using h)
  rw[qi,qy,Nat.one_mul,List.drop_append,List.drop_eq_nil_of_le (by rw[hl y (by simp)];omega),List.nil_append,hl y (by simp),Nat.add_sub_cancel]
  exact this
theorem flatMap_len{α:Type}(f:α→List Value)(n:Nat):∀(xs:List α),(∀x∈xs,(f x).length=n)→(xs.flatMap f).length=xs.length*n
 | [],_=>by simp
 |y::r,hl=>by
  rw[qi,List.length_append,flatMap_len f n r (fun x hx=>hl x (by simp[hx])),hl y (by simp),List.length_cons,qy]
  omega
theorem Rd.sliceOf{α:Type}{S:Shape α}(f:α→List Value){ι:Nat→Loc}{m:Mem}{w:World}(hr:Rel ι m w){xs:List α}{v v':Value}(hd:Rd m S.n v xs.length (xs.flatMap f))(hv:VRel m.Has ι v v')
 (hS:∀x∈xs,S.rep w (f x) x) (hf:∀x∈xs,∀c∈f x,flat 3 c=true):SliceOf S w v' xs:=by
 have I:∀x∈xs,(f x).length=S.n:=fun x hx=>S.len (hS x hx)
 obtain⟨a,cap,rfl,h1,h2,h3,h4,h5⟩:=hd
 cases a with
 |none=>
  have O:=h4 rfl
  subst O
  have hx:xs=[]:=List.eq_nil_of_length_eq_zero (by omega)
  subst hx
  cases hv
  exact SliceOf.nil S w
 |some p=>
  obtain⟨b,rfl,hc⟩:=h5 p rfl
  by_cases O:xs=[]
  ·subst O
   generalize hk:([]:List α).length=k at hv
   cases hv with
   |slice _ _ _ _ cap' hlt hl E=>exact⟨_,cap',by rw[hk],.inl ⟨rfl,by rcases E with E|E<;>omega,fun h=>by cases h⟩⟩
   |empty _ _ p hlt=>exact⟨_,0,rfl,.inl ⟨rfl,qx _,fun h=>by cases h⟩⟩
  ·have a6:0<xs.length:=List.length_pos_iff.2 O
   obtain⟨ro,hg⟩:=hc (by omega)
   obtain⟨C,e,fz,g1,g2,g3,g4,g5,g6⟩:=hr.at' _ _ _ _ hg
   generalize hk:xs.length=k at hv
   cases hv with
   |empty _ _ p hlt=>omega
   |slice _ _ _ _ cap' hlt hl E=>
    refine⟨_,cap',by rw[hk],.inr ⟨(ι b).blk,(ι b).base+0,rfl,QP g1,by rcases E with E|E<;>omega,by rcases E with E|E<;>omega,fun i x hx=>⟨f x,hS x (qk hx),fun j c hj=>?_⟩⟩⟩
    have Z:=flatMap_at f S.n xs i x I hx
    have Y:j<S.n:=by rw[←I x (qk hx)];exact(List.getElem?_eq_some_iff.1 hj).1
    have hc:(xs.flatMap f)[i*S.n+j]?=some c:=by
     rw[←Z,List.getElem?_take,if_pos Y,List.getElem?_drop]at hj
     exact hj
    obtain⟨_,v',h8,h9⟩:=g5 _ c hc
    have U:=hf x (qk hx) c (qk hj)
    rw[←Vt 3 c v' U h9]at h8
    rw[Qi g1,←h8]
    congr 1
    omega
theorem vrels_two{n:Nat→Prop}{ι:Nat→Loc}{a b:Value}{ys:List Value}(h:VRels n ι [a,b] ys):∃a' b',ys=[a',b']∧VRel n ι a a'∧VRel n ι b b':=by
 have hl:=h.1
 match ys,hl with
 | [a',b'],_=>exact⟨a',b',rfl,h.2 0 _ _ rfl rfl,h.2 1 _ _ rfl rfl⟩
theorem map_flat{α β:Type}(f:α→β):∀l:List α,l.map f=l.flatMap fun x=>[f x]
 | []=>rfl
 |x::r=>by rw[List.map_cons,qi,map_flat f r];rfl
theorem Rd.strs{ι:Nat→Loc}{m:Mem}{w:World}(hr:Rel ι m w){xs:List ByteArray}{v v':Value}(hd:Rd m 1 v xs.length (xs.map .string))(hv:VRel m.Has ι v v'):SliceOf strS w v' xs:=by
 rw[map_flat]at hd
 exact Rd.sliceOf (S:=strS) (fun s=>[.string s]) hr hd hv (fun _ _=>rfl) fun x _ c hc=>by simp at hc;subst hc;rfl
theorem args_one{P:Program}{m:Mem}{B:Nat}{t:TypeId}{ts:List TypeId}{vs:List Value}(h:ArgsOf P m B (t::ts) vs):∃v r,vs=v::r∧ArgOf P m B t v∧ArgsOf P m B ts r:=by
 cases h with
 |cons h hs=>exact⟨_,_,rfl,h,hs⟩
theorem args_nil{P:Program}{m:Mem}{B:Nat}{vs:List Value}(h:ArgsOf P m B [] vs):vs=[]:=by cases h;rfl
theorem arg_str{P:Program}{m:Mem}{B:Nat}{t:TypeId}{v:Value}(hu:P.underlying t=some .string)(h:ArgOf P m B t v):∃s,v=.string s∧s.size≤B:=by
 unfold ArgOf at h
 rw[hu]at h
 obtain⟨s,e,hs⟩:=h.inv_string hu
 exact⟨s,by simpa using e,hs⟩
theorem arg_list{P:Program}{m:Mem}{B:Nat}{t e:TypeId}{v:Value}(hu:P.underlying t=some (.slice e))(h:ArgOf P m B t v):ARep P m B t [v]:=by
 unfold ArgOf at h
 rw[hu]at h
 exact h
theorem arg_int{P:Program}{m:Mem}{B:Nat}{t:TypeId}{v:Value}{k:IntKind}(hu:P.underlying t=some (.int k))(h:ArgOf P m B t v):∃n,v=.int k n∧(Lit.int k n).wf=true:=by
 unfold ArgOf at h
 rw[hu]at h
 obtain⟨n,e,hs⟩:=h.inv_int hu
 exact⟨n,by simpa using e,hs⟩
def Ju(n o:Nat):Option Blk→Option Value
 |some (.cells _ _ cs)=>if o+n≤cs.length then some (.agg ((cs.drop o).take n).toArray)else none
 |_=>none
def cellIn(o:Nat):Option Blk→Option Value
 |some (.cells _ _ cs)=>cs[o]?
 |_=>none
def Ji(n:Nat)(m:Mem)(b o:Nat)(vs:List Value):Option Blk→Option Mem
 |some (.cells false s cs)=>if vs.length=n∧o+vs.length≤cs.length∧Jo vs=true then some (m.set b (some (.cells false s (setL cs o vs))))else none
 |_=>none
section
variable {P : Program} {t : TypeId} {d : TypeDesc} {i : TypeInfo} {n : Nat}
theorem Kj(hu:P.underlying t=some d)(hd:d.isRow=true)(hi:P.info? t=some i)(hs:i.size=n)(get:Nat→Option Blk)(b o:Nat):gLoad P get t (.pointer (some ⟨b,o,none⟩))=Ju n o (get b):=by
 subst hs
 cases hb:get b with
 |none=>simp only[gLoad,hb,Ju]
 |some x=>cases x<;>simp only[gLoad,hb,Ju,hu,hd,if_true,hi]
theorem Xe(hu:P.underlying t=some d)(hd:d.isRow=false)(get:Nat→Option Blk)(b o:Nat):gLoad P get t (.pointer (some ⟨b,o,none⟩))=cellIn o (get b):=by
 cases hb:get b with
 |none=>simp only[gLoad,hb,cellIn]
 |some x=>cases x<;>simp only[gLoad,hb,cellIn,hu,hd,qo,if_false]
theorem Xg(hi:P.info? t=some i)(hs:i.size=n)(m:Mem)(b o:Nat)(v:Value):Qf P m t (.pointer (some ⟨b,o,none⟩)) v=Ji n m b o v.cells.toList (m.get b):=by
 subst hs
 cases hb:m.get b with
 |none=>simp only[Qf,hb,Ji]
 |some x=>rcases x with⟨ro,s,cs⟩|⟨ro,es,c⟩|⟨ro,d,s,l,k⟩|⟨ro,C,e,lo,E⟩<;>cases ro<;>simp only[Qf,hb,Ji,hi]
end
theorem Q4(P:Program)(m:Mem)(t:TypeId)(p:Value):UZ P m t p=gLoad P m.get t p:=by
 unfold UZ gLoad
 rfl
theorem g_tt:((some true:Option Bool)==some true)=true:=rfl
theorem g_tf:((some true:Option Bool)==some false)=false:=rfl
theorem g_ft:((some false:Option Bool)==some true)=false:=rfl
theorem g_ff:((some false:Option Bool)==some false)=true:=rfl
theorem aUn_not(b:Bool):aUn .not (.bool b)=some (.bool !b):=rfl
theorem agg_cells(xs:Array Value):(Value.agg xs).cells.toList=xs.toList:=rfl
theorem ZN(fs:Array Field):(TypeDesc.struct fs).isRow=true:=rfl
theorem row_array(k:Nat)(e:TypeId):(TypeDesc.array k e).isRow=true:=rfl
theorem rowIn_at{α:Type}{n:Nat}{f:α→List Value}{xs:List α}(hl:∀x∈xs,(f x).length=n){k:Nat}{x:α}(hx:xs[k]?=some x)(ro:Bool)(s:Nat):Ju n (k*n) (some (.cells ro s (xs.flatMap f)))=some (.agg (f x).toArray):=by
 have I:=flatMap_len f n xs hl
 have h2:=(List.getElem?_eq_some_iff.1 hx).1
 have E:=Nat.mul_le_mul_right n (show k+1≤xs.length by omega)
 rw[qy,Nat.one_mul]at E
 unfold Ju
 simp only
 rw[if_pos (by omega),flatMap_at f n xs k x hl hx]
theorem XH{P:Program}(t:TypeId){xs:Array Value}(h:Jo xs.toList=true):QO P t (.agg xs)=some (.cells false (J6 P t) xs.toList):=by
 unfold QO
 rw[agg_cells,if_pos h]
def zZ:=And.intro (And.intro (And.intro (And.intro (And.intro (And.intro (And.intro @alOf.eq_1 (And.intro @alOf.eq_2 @sOps.eq_1)) (And.intro @sOpsB.eq_1 (And.intro @sOpsB.eq_2 @sOp.eq_1))) (And.intro (And.intro @sOne.eq_1 (And.intro @sHOne.eq_1 @sHOp.eq_1)) (And.intro @sGuard.eq_1 (And.intro @sWant.eq_1 @sFun.eq_1)))) (And.intro (And.intro (And.intro @sGuarded.eq_1 (And.intro @sGuarded.eq_2 @sGuardedV.eq_1)) (And.intro @sGuardedV.eq_2 (And.intro @isFn.eq_1 @isFn.eq_3))) (And.intro (And.intro @isVal.eq_1 (And.intro @isVal.eq_2 @kind.eq_1)) (And.intro (And.intro @kind.eq_2 @kind.eq_3) (And.intro @kind.eq_4 @kind.eq_5))))) (And.intro (And.intro (And.intro (And.intro @kind.eq_6 (And.intro @kind.eq_7 @kind.eq_8)) (And.intro @kind.eq_9 (And.intro @kind.eq_10 @kind.eq_11))) (And.intro (And.intro @kind.eq_12 (And.intro @kindB.eq_1 @kindB.eq_2)) (And.intro @kindB.eq_3 (And.intro @kindB.eq_4 @kindC.eq_1)))) (And.intro (And.intro (And.intro @kindC.eq_2 (And.intro @kindT.eq_1 @kindT.eq_2)) (And.intro @withV_some (And.intro @withV_ite @sVal.eq_1))) (And.intro (And.intro @sVal.eq_2 (And.intro @sVal.eq_3 @sVal.eq_4)) (And.intro (And.intro @sVal.eq_5 @sVal.eq_6) (And.intro @sVal.eq_7 @sVal.eq_8)))))) (And.intro (And.intro (And.intro (And.intro (And.intro @sVal.eq_9 (And.intro @sVal.eq_11 @sVal.eq_12)) (And.intro @sVal.eq_13 (And.intro @sVal.eq_14 @sVal.eq_15))) (And.intro (And.intro @sVal.eq_16 (And.intro @sVal.eq_17 @sVal.eq_18)) (And.intro @sVal.eq_19 (And.intro @sVal.eq_20 @sNew.eq_1)))) (And.intro (And.intro (And.intro @sNew.eq_2 (And.intro @sNew.eq_3 @sNew.eq_4)) (And.intro @sNew.eq_5 (And.intro @sMem.eq_1 @sMem.eq_2))) (And.intro (And.intro @sMem.eq_3 (And.intro @sMem.eq_4 @sMem.eq_5)) (And.intro (And.intro @sAny.eq_1 @sLookup.eq_1) (And.intro @sEntry.eq_1 @sArgs.eq_1))))) (And.intro (And.intro (And.intro (And.intro @sArgs.eq_2 (And.intro @sParts.eq_1 @sParts.eq_2)) (And.intro @sBin.eq_1 (And.intro @sConv.eq_1 @sConv.eq_3))) (And.intro (And.intro @vSlice.eq_1 (And.intro @fOpt.eq_1 @fOpt.eq_2)) (And.intro @vPick.eq_1 (And.intro @vPick.eq_2 @vPick.eq_3)))) (And.intro (And.intro (And.intro @vLoad.eq_1 (And.intro @vIndexAddr.eq_1 @vIndex.eq_1)) (And.intro @vExtract.eq_1 (And.intro @vUn.eq_1 @aUn_not))) (And.intro (And.intro @Bool.not_true (And.intro @Bool.not_false @sCallee.eq_1)) (And.intro (And.intro @AL.look.eq_1 @AL.look.eq_2) (And.intro @AL.look.eq_3 @AL.get.eq_1))))))) (And.intro (And.intro (And.intro (And.intro (And.intro (And.intro @AL.get.eq_2 (And.intro @AL.keep.eq_1 @AL.keep.eq_2)) (And.intro @flat.eq_1 (And.intro @flat.eq_2 @flat.eq_5))) (And.intro (And.intro @flat.eq_6 (And.intro @flat.eq_7 @sPut.eq_1)) (And.intro @sPut.eq_2 (And.intro @isC.eq_1 @isC.eq_2)))) (And.intro (And.intro (And.intro @sThen.eq_1 (And.intro @sThen.eq_2 @sBlock.eq_1)) (And.intro @sBlock.eq_2 (And.intro @cThen.eq_1 @cThen.eq_2))) (And.intro (And.intro @cBlock.eq_1 (And.intro @cBlock.eq_2 @sHead.eq_1)) (And.intro (And.intro @sHeadB.eq_1 @sHeadB.eq_2) (And.intro @sEnd.eq_1 @sEnd.eq_3))))) (And.intro (And.intro (And.intro (And.intro @List.take_succ_cons.{0} (And.intro @List.take_zero.{0} @List.drop_succ_cons.{0})) (And.intro @qj.{0} (And.intro @aBin_ii @aBin_ss))) (And.intro (And.intro @aBinI.eq_1 (And.intro @aBinI.eq_2 @aBinI.eq_3)) (And.intro @aInt_add (And.intro @aInt_sub @aInt_mul)))) (And.intro (And.intro (And.intro @aInt_quo (And.intro @aInt_rem @aInt_and)) (And.intro @aInt_or (And.intro @aInt_xor @aInt_eql))) (And.intro (And.intro @aInt_neq (And.intro @aInt_lss @aInt_leq)) (And.intro (And.intro @aInt_gtr @aInt_geq) (And.intro @aStr_add @aStr_eql)))))) (And.intro (And.intro (And.intro (And.intro (And.intro @aStr_neq (And.intro @qo @Bool.or_true)) (And.intro @Bool.or_false (And.intro @if_true.{1} @if_false.{1}))) (And.intro (And.intro @true_and (And.intro @and_true @List.nil_append.{0})) (And.intro @List.append_nil.{0} (And.intro qe qq)))) (And.intro (And.intro (And.intro Tryz.underlying3 (And.intro qp qf)) (And.intro @Zv (And.intro @Zw @inf_str))) (And.intro (And.intro @XA (And.intro @XZ @Abs.str_size)) (And.intro (And.intro @aIndexAddr.eq_1 @aIndexAddr.eq_2) (And.intro @Nat.mul_one @qv))))) (And.intro (And.intro (And.intro (And.intro @aLen.eq_1 (And.intro @aLen.eq_2 @aLen.eq_3)) (And.intro @vCall.eq_1 (And.intro @vBuiltin.eq_1 @vBuiltin.eq_2))) (And.intro (And.intro @vBuiltin.eq_3 (And.intro @vLen.eq_1 @new_int)) (And.intro (And.intro @new_u8 @Int.toNat_natCast) (And.intro @vFieldAddr.eq_1 @vBuild.eq_1)))) (And.intro (And.intro (And.intro @vNil.eq_1 (And.intro @vNil.eq_3 @List.length_cons.{0})) (And.intro @List.length_nil.{0} (And.intro @List.cons_append.{0} @cellIn.eq_1))) (And.intro (And.intro @Region.wanted.eq_1 (And.intro @g_tt @g_tf)) (And.intro (And.intro @g_ft @g_ff) (And.intro @List.getElem?_cons_succ.{0} @List.getElem?_cons_zero.{0})))))))
end Go.Proofs.YthohbneadomgdaaGreatDoor.Abs
namespace Go.Proofs.YthohbneadomgdaaGreatDoor.Abs
open Go
structure Thin(m m':Mem):Prop where
 has:∀b,m.Has b→m'.Has b
 get:∀b ro s cs,m'.get b=some (.cells ro s cs)→∃r,m.get b=some (.cells r s cs)∧(r=true→ro=true)
 oth:∀b x,m'.get b=some x→(∃ro s cs,x=.cells ro s cs)∨m.get b=some x
theorem Thin.refl(m:Mem):Thin m m:=⟨fun _ h=>h,fun b ro s cs h=>⟨ro,h,fun h=>h⟩,fun _ _ h=>.inr h⟩
theorem tR(m:Mem):Thin m m:=.refl m
theorem Thin.own{m m':Mem}(h:Thin m m'){b:Nat}(hb:m'.Own b):m.Own b:=by
 obtain⟨x,hb,hx⟩:=hb
 rcases h.oth b x hb with⟨ro,s,cs,rfl⟩|E
 ·have I:ro=false:=by simpa[Blk.own]using hx
  subst I
  obtain⟨r,E,h2⟩:=h.get b false s cs hb
  cases r with
  |false=>exact .of E
  |true=>cases h2 rfl
 ·exact⟨x,E,hx⟩
theorem Thin.live{m m':Mem}(h:Thin m m'){b:Nat}(hb:m'.get b≠none):m.get b≠none:=by
 cases hx:m'.get b with
 |none=>exact absurd hx hb
 |some x=>
  rcases h.oth b x hx with⟨ro,s,cs,rfl⟩|E
  ·obtain⟨r,E,_⟩:=h.get b ro s cs hx
   rw[E];simp
  ·rw[E];simp
theorem Rel.thin{ι:Nat→Loc}{m m':Mem}{w:World}(h:Rel ι m w)(k:Thin m m'):Rel ι m' w:=by
 refine⟨fun b ro s cs hb=>?_,fun b x hb=>?_,fun b b' hb hb' hne=>h.inj b b' (k.live hb) (k.own hb') hne,⟨h.glob.known,fun b hb=>h.glob.own b (k.own hb)⟩⟩
 rotate_left
 ·rcases k.oth b x hb with⟨ro,s,cs,rfl⟩|E
  ·trivial
  ·exact(h.oth b x E).mono k.has fun _ _=>rfl
 obtain⟨r,E,h2⟩:=k.get b ro s cs hb
 obtain⟨C,e,fz,g1,Z,U,O,Y,g6⟩:=h.at' b r s cs E
 refine⟨C,e,fz,g1,Z,U,O,fun i v hi=>?_,fun hro=>g6 ?_⟩
 ·obtain⟨g7,v',g8,I⟩:=Y i v hi
  exact⟨g7,v',g8,I.mono k.has fun _ _=>rfl⟩
 ·cases r with
  |false=>rfl
  |true=>rw[h2 rfl]at hro;cases hro
theorem Step.thin{ι₀ ι:Nat→Loc}{m₀ m m':Mem}{w₀ w:World}(h:Step ι₀ m₀ w₀ ι m w)(k:Thin m m'):Step ι₀ m₀ w₀ ι m' w:=
 ⟨h.os,h.tape,h.output,h.size,fun b hb=>k.has b (h.grows b hb),h.at_,h.block,fun b hb=>h.own b (k.own hb)⟩
theorem Spec.thin{P:Program}{f:FuncId}{xs:List Value}{m:Mem}{R R':Value→Mem→Prop}(h:Spec P f xs m R)(hr:∀v M,R v M→∃M',Thin M M'∧R' v M'):Spec P f xs m R':=by
 intro ι w ys hy hw
 refine(h ι w ys hy hw).mono ?_
 rintro e w' ⟨v,v',κ,M,U,h2,O,Y,Z⟩
 obtain⟨M',E,I⟩:=hr v M U
 exact⟨v,v',κ,M',I,h2,O.mono E.has fun _ _=>rfl,Y.thin E,Z.thin E⟩
def keepF(f:AL):List Nat→Option AL
 | []=>some []
 |t::r=>match AL.get f t with
  |none=>none
  |some v=>match keepF f r with
   |none=>none
   |some q=>some ((t,v)::q)
theorem keepF_get{f:AL}:∀{ts:List Nat}{q:AL},keepF f ts=some q→∀(t:Nat)(v:Value),AL.get q t=some v→AL.get f t=some v
 | [],q,h,t,v,hv=>by simp only[keepF,Option.some.injEq]at h;subst h;simp[AL.get]at hv
 |u::r,q,h,t,v,hv=>by
  simp only[keepF]at h
  split at h<;>first|(cases h;done)|skip
  rename_i x hx
  split at h<;>first|(cases h;done)|skip
  rename_i q' hq'
  cases h
  simp only[AL.get]at hv
  split at hv
  ·rename_i e;subst e;cases hv;exact hx
  ·exact keepF_get hq' t v hv
theorem Knows.keepF{n:Nat}{f f':AL}{a:List Value}{ts:List Nat}(h:Knows n f a)(hk:keepF f ts=some f'):Knows n f' a:=⟨h.1,fun t v hv=>h.2 t v (keepF_get hk t v hv)⟩
def JoinM(f:AL)(m:Mem) [J:Box (AL→Mem→Prop)]:Prop:=∃slots,@QT _ (keepF f slots) ⟨fun f'=>∃m',Thin m m'∧J.k f' m'⟩
section
variable {P : Program} {n k : Nat} {f : AL} {m : Mem} {Q : Exit → AL → Mem → Prop}
theorem Jr{c:Code}(I:Nat→AL→Mem→Prop)(j₀:Nat)(h₀:@JoinM f m ⟨I j₀⟩)
 (round:∀j f m,I j f m→@CW P n k ⟨c⟩ ⟨@cThen ⟨fun f' m'=>@JoinM f' m' ⟨fun f2 m2=>∃j',I j' f2 m2∧j'<j⟩⟩ ⟨Q⟩⟩ f m):@CW P n k ⟨.loop c⟩ ⟨Q⟩ f m:=by
 intro a ha ι₀ m₀ w₀ ι act w h0 hs hA hr
 have ad:∀j f m,I j f m→∀(a:List Value)(ι:Nat→Loc)(act:Act)(w:World),Knows n f a→Step ι₀ m₀ w₀ ι m w→ARel m.Has ι a act→Rel ι m w→
  Code.rounds P c (K6 ι₀ m₀ w₀ fun e a' m'=>∃f',Knows n f' a'∧Q e f' m') (j+1) act w:=by
  intro j
  induction j using Nat.strongRecOn with
  |_ j ih=>
   intro f m hI a ι act w ha hs hA hr
   refine wp_mono (round j f m hI a ha ι₀ m₀ w₀ ι act w h0 hs hA hr) ?_
   rintro e a7 w2 ⟨κ,a2,m2,⟨f2,aa,E⟩,a6,a8,hs2⟩
   cases e with
   |normal=>
    obtain⟨U,E⟩:=E
    obtain⟨f3,Y,m3,O,j',Z,ac⟩:=Qe E
    exact SW_loop.rounds_le (ih j' ac f3 m3 Z a2 κ a7 w2 (aa.keepF Y) (hs2.thin O) (a6.mono O.has fun _ _=>rfl) (a8.thin O)) (by omega)
   |_=>exact⟨κ,a2,m2,⟨f2,aa,E⟩,a6,a8,hs2⟩
 obtain⟨U,E⟩:=h₀
 obtain⟨f3,Y,m3,O,Z⟩:=Qe E
 exact wp_loop_rounds (j₀+1) (ad j₀ f3 m3 Z a ι act w (ha.keepF Y) (hs.thin O) (hA.mono O.has fun _ _=>rfl) (hr.thin O))
theorem QB{x y:Code}(I:AL→Mem→Prop)(h:@CW P n k ⟨x⟩ ⟨@cThen ⟨fun f' m'=>@JoinM f' m' ⟨I⟩⟩ ⟨Q⟩⟩ f m)(hy:∀f m,I f m→@CW P n k ⟨y⟩ ⟨Q⟩ f m):@CW P n k ⟨.seq x y⟩ ⟨Q⟩ f m:=by
 refine J0 (h.mono ?_)
 intro e f' m' E
 cases e with
 |normal=>
  obtain⟨Y,E⟩:=E
  obtain⟨f3,O,m3,U,hI⟩:=Qe E
  intro a ha ι₀ m₀ w₀ ι act w h0 hs hA Z
  exact hy f3 m3 hI a (ha.keepF O) ι₀ m₀ w₀ ι act w h0 (hs.thin U) (hA.mono U.has fun _ _=>rfl) (Z.thin U)
 |_=>exact E
def mEnd(P:Program)(rs:List ResultVar)(R:Value→Mem→Prop):Exit→AL→Mem→Prop
 |.ret,f,m=>@QT _ (sAnswer P rs f m) ⟨fun v=>∃m',Thin m m'∧R v m'⟩
 |.normal,f,m=>@QT _ (sAnswer P rs f m) ⟨fun v=>∃m',Thin m m'∧R v m'⟩
 |_,_,_=>False
theorem Spec.walkM{g:FuncId}{fn:Func}{c:Code}{xs:List Value}{R:Value→Mem→Prop}{m:Mem}(hf:P.funcs[g]?=some fn)(hb:fn.body=some c)(rs:Array ResultVar)(hr:fn.results=rs)(n:Nat)(hn:fn.ntmps=n)(hx:xs.length≤n)
 (h:Within m→(∀x∈xs,Cl m.Has x)→∀k,@CW P n k ⟨c⟩ ⟨mEnd P rs.toList R⟩ (alOf 0 xs) m):Spec P g xs m R:=by
 intro ι w ys I E
 have O:∀x∈xs,Cl m.Has x:=by
  intro x hx
  obtain⟨i,hi,rfl⟩:=List.getElem_of_mem hx
  exact(I.2 i _ _ (qd hi) (qd (by rw[←I.1];exact hi))).cl
 have hw:=E.within
 have hs:Spec P g xs m fun v M=>∃M',Thin M M'∧R v M':=by
  refine Spec.walk hf hb rs hr n hn hx fun a ha ι₀ m₀ w₀ ι act w hs hA hr=>?_
  refine wp_mono (h hw O m₀.size a ha ι₀ m₀ w₀ ι act w (qw _) hs hA hr) ?_
  rintro e U w' ⟨κ,a',m',⟨f',Z,h2⟩,Y⟩
  refine⟨κ,a',m',⟨f',Z,?_⟩,Y⟩
  cases e<;>exact h2
 exact(hs.thin fun v M h=>h) ι w ys I E
end
section
variable {P : Program} {t tx e : TypeId} {i : TypeInfo} {z : Value} {N : Nat}
theorem src_block{d:TypeId}(hx:P.underlying tx=some (.slice d)){m:Mem}{g k c:Nat}{ro:Bool}{s:Nat}{news:List Value}(hg:m.get g=some (.cells ro s news))(hk:news.length=k*N):
 aSrc P m tx N (.slice (some ⟨g,0,none⟩) k c)=some (k,news):=by
 unfold aSrc
 simp only[hx,hg,qv,←hk,qw,if_true,qj,List.take_length]
end
theorem beqB_dec(a b:ByteArray):UW a b=decide (a=b):=by
 unfold UW
 rw[Bool.eq_iff_iff,decide_eq_true_eq,beq_iff_eq]
 exact⟨fun h=>ByteArray.ext (Array.ext' h),fun h=>by rw[h]⟩
end Go.Proofs.YthohbneadomgdaaGreatDoor.Abs
