import Derived.Test.YthohbneadomgdaaGreatDoorVisi10
import Derived.Test.YthohbneadomgdaaGreatDoorVisi03
import Derived.Test.YthohbneadomgdaaGreatDoorVisi06
import Derived.Defers
import Derived.Test.YthohbneadomgdaaGreatDoorVisi09
import Derived.Test.YthohbneadomgdaaGreatDoorVisi01
import Derived.Deep.RegionHeld3
import Derived.Deep.CutRange
set_option linter.all false
set_option maxRecDepth 100000
set_option maxHeartbeats 16000000
open Nat renaming reduceLT→yQ,reduceEqDiff→yK,reduceAdd→yV,reduceSub→yY,reduceMul→yU
open Int renaming reduceToNat→yW,reduceLE→yX,reduceEq→yZ,reduceLT→yJ
open Go.Proofs.Tryz renaming prog→qc,underlying34→qf,results86→qh
open Nat renaming le_refl→qd
open UInt8 renaming ofNat→qe
namespace Go.Proofs.YthohbneadomgdaaGreatDoor
open Go.RowKit Abs
theorem next_dsk{m:Mem}{r q since last c:Nat}{seen:List Nat}{ro:Bool}{L:X0}(hr:m.get r=some (.it false q since seen last))(hq:m.get q=some (.kv ro (QW L) c))(hc:∀x∈L,x.2.2<since)(hl:since≤last):
 aNext m (.pointer (some ⟨r,0,none⟩))=some fun v m'=>(v=.tuple #[.bool false]∧m'=m∧ZI (QW L) seen=[])∨∃e∈ZI (QW L) seen,v=.tuple #[.bool true,e.key,e.val]∧m'=m.set r (some (.it false q since (seen++[e.born]) c)):=by
 unfold aNext
 simp only[hr,hq]
 rw[if_pos ⟨by
  rw[List.all_eq_true]
  intro e E
  unfold QW at E
  rw[List.mem_map]at E
  obtain⟨x,hx,rfl⟩:=E
  simpa using hc x hx,hl⟩]
theorem entry_dsk{get:Nat→Option Blk}{r q since c:Nat}{seen:List Nat}{ro ro':Bool}{L:X0}{x:Nat×List UInt8×Nat}(hr:get r=some (.it ro' q since (seen++[x.2.2]) c))(hq:get q=some (.kv ro (QW L) c))(hb:(L.map (·.2.2)).Nodup)(hx:x∈L):
 KB get (.pointer (some ⟨r,0,none⟩))=some (.tuple #[.int .i64 (x.1:Nat),.string (str x.2.1)]):=by
 unfold KB
 simp only[hr,hq,if_true,List.getLast?_concat,ents_find hb hx]
theorem syncV_size{E:Dsk}(h:E.Ok)(seen:List Nat){s:List UInt8}(hs:s∈VI E.old E.last seen):s.length=256:=by
 unfold VI at hs
 rw[List.mem_mapIdx]at hs
 obtain⟨i,hi,rfl⟩:=hs
 split
 ·rename_i x hx
  exact(h.within x (List.mem_of_find?_eq_some hx)).2
 ·exact h.size _ (List.getElem_mem hi)
theorem nodup_born{L:X0}(h:(L.map (·.2.2)).Nodup){x y:Nat×List UInt8×Nat}(hx:x∈L)(hy:y∈L)(e:x.2.2=y.2.2):x=y:=by
 induction L with
 |nil=>cases hx
 |cons a L ih=>
  rw[List.map_cons,List.nodup_cons]at h
  rcases List.mem_cons.1 hx with rfl|E<;>rcases List.mem_cons.1 hy with rfl|hy'
  ·rfl
  ·exact absurd (List.mem_map.2 ⟨y,hy',e.symm⟩) h.1
  ·exact absurd (List.mem_map.2 ⟨x,E,e⟩) h.1
  ·exact ih h.2 E hy'
theorem sync_spec(M:Mem)(p q g:Nat)(d:Dsk)(hd:DskAt M p q g d):
 Abs.Spec qc 36 [dp p] M fun u M'=>u=.int .i64 d.sync.2∧DskAt M' p q g d.sync.1∧Only [p,q,g] M M'∧M.size≤M'.size:=by
 refine Abs.Spec.walkM Tryz.func36 (by rfl) _ Tryz.results36 _ Tryz.ntmps36 (by simp[dp]) ?_
 intro hc hx k
 obtain⟨D,hD⟩:∃D,D=d.sync:=⟨_,rfl⟩
 rw[←hD]
 unfold Dsk.sync at hD
 refine J0 (R0 ?_)
 refine J0 (J0 (R0 ?_))
 refine K0 (may_spec M p q g d hd 0) ?_
 refine J0 (R0 ?_)
 refine CC (d.may 0 !=0) (fun h=>J0 (J1 ?_)) (fun h=>J3 ?_)
 ·refine S0 ?_
  refine T0 ?_
  have h:d.may 0≠0:=by simpa using h
  rw[if_pos h]at hD
  subst hD
  exact⟨_,tR _,rfl,hd,Only.refl _ _,qd _⟩
 have h:d.may 0=0:=by simpa using h
 rw[if_neg (by simp[h])]at hD
 refine S0 ?_
 refine J0 (J0 (R0 ?_))
 refine⟨by kernel_rfl,_,burn_spec M p q g d hd,?_⟩
 rintro _ M1 ⟨rfl,I,ag,aA⟩
 refine S0 ?_
 refine CC (!!decide (d.fuse=0)) (fun h=>J0 (J1 ?_)) (fun h=>J3 ?_)
 ·refine S0 ?_
  refine T0 ?_
  rw[Bool.not_not]at h
  have h:=of_decide_eq_true h
  rw[if_pos h]at hD
  subst hD
  exact⟨_,tR _,rfl,I,ag.mono (by simp),by omega⟩
 rw[Bool.not_not]at h
 have h3:=of_decide_eq_false h
 rw[if_neg h3]at hD
 refine S0 ?_
 have aq:dp p=.pointer (some ⟨p,0,none⟩):=rfl
 obtain⟨E,hE⟩:∃E,E=d.burnt:=⟨_,rfl⟩
 rw[←hE]at I hD
 clear hE
 obtain⟨s,hr⟩:=I.row
 have aE:=hr
 unfold dskC at hr
 refine J0 (J0 (J1 ?_))
 simp only[zZ,reduceIte,yQ,yW,yX,yZ,yJ,yK,yV,zDk,Jc,Jb,J9,J8,hr,aq,range_dsk I.kv]
 obtain⟨M2,a8⟩:∃M2,M2=M1.push (.it false q E.clock [] E.clock):=⟨_,rfl⟩
 obtain⟨r,aj⟩:∃r,r=M1.size:=⟨_,rfl⟩
 rw[←a8,←aj]
 have az:r≠p:=by have:=Qb hr;omega
 have ax:r≠q:=by have:=Qb I.kv;omega
 have af:r≠g:=by have:=Qb I.old;omega
 have ar:M2.get r=some (.it false q E.clock [] E.clock):=by rw[a8,aj,Mem.get_push_new]
 have a2:∀b x,M1.get b=some x→M2.get b=some x:=fun b x hb=>by rw[a8,Mem.get_push_old (Qb hb)];exact hb
 have hs2:M2.size=M1.size+1:=by rw[a8,Mem.size_push]
 refine J7 (Jr (fun j f M'=>∃seen:List Nat,j=(ZI (QW E.last) seen).length∧f=[(0,.pointer (some ⟨p,0,none⟩)),(18,.pointer (some ⟨r,0,none⟩))]∧M'.get r=some (.it false q E.clock seen E.clock)∧
  DskAt M' p q g { E with old:=VI E.old E.last seen }∧Only [g,r] M2 M'∧M'.size=M2.size) (ZI (QW E.last) []).length ?_ ?_)
 ·refine JK [0,18] ?_
  refine⟨M2,tR _,[],rfl,ar,?_,Only.refl _ _,rfl⟩
  rw[syncV_nil]
  exact I.same a2
 ·rintro j f M' ⟨seen,rfl,rfl,ac,Y,ai,am⟩
  have av:=next_dsk ac Y.kv (by exact I.ok.clock) (qd _)
  refine J0 (R1 @av ?_)
  rintro v m' (⟨rfl,e9,O⟩|⟨e,he,rfl,rfl⟩)
  ·replace e9:=e9.symm;subst e9
   refine S0 ?_
   refine J0 (CF (Jn ?_))
   refine S0 ?_
   obtain⟨s',ak⟩:=Y.row
   unfold dskC at ak
   refine J0 (J1 ?_)
   simp only[zZ,reduceIte,yQ,yW,yX,yZ,yJ,yK,yV,zDk,Jc,Jb,J9,J8,ak,clear_dsk Y.kv]
   refine J0 (R0 ?_)
   refine T0 ?_
   subst hD
   have ap:=I.ok.synced
   have:=Y.kvTurn (L:=[]) (c:=E.clock) (by rw[syncV_all O];exact ap)
   rw[syncV_all O]at this
   refine⟨_,tR _,rfl,this,?_,by rw[Mem.size_set,am,hs2,aA];omega⟩
   refine Only.trans (B:=M') ?_ (Only.set (by simp) _)
   refine Only.trans (ag.mono (by simp)) (fun b x hb hbx=>ai b x ?_ (a2 b x hbx))
   have:=Qb hbx
   simp at hb ⊢
   exact⟨hb.2.2,by omega⟩
  ·have U:=aLeft_less he
   obtain⟨x,hx,rfl,aD⟩:=aLeft_mem he
   obtain⟨aG,aH⟩:=I.ok.within x hx
   simp only at U ⊢
   obtain⟨M3,a6⟩:∃M3,M3=M'.set r (some (.it false q E.clock (seen++[x.2.2]) E.clock)):=⟨_,rfl⟩
   rw[←a6]
   have ae:M3.get r=some (.it false q E.clock (seen++[x.2.2]) E.clock):=by rw[a6];exact Mem.get_set_same ac _
   have Z:DskAt M3 p q g { E with old:=VI E.old E.last seen }:=by rw[a6];exact Y.only (Only.set (l:=[r]) (by simp) _) (by simpa using Ne.symm az) (by simpa using Ne.symm ax) (by simpa using Ne.symm af)
   obtain⟨s3,ab⟩:=Z.row
   unfold dskC at ab
   simp only at ab
   have al:=entry_dsk (get:=M3.get) ae Z.kv I.ok.born hx
   refine S0 ?_
   refine J0 (Qd true (by rfl) (fun _=>J3 ?_) (fun h=>by cases h))
   refine S0 ?_
   refine J7 (J0 (R1 @al ?_))
   have g0:(0:Int)≤(x.1:Int):=by omega
   have g1:(x.1:Int)<((VI E.old E.last seen).length:Int):=by rw[Vz];omega
   have ah:Ji 1 M3 g x.1 [.string (str x.2.1)] (M3.get g)=some (M3.set g (some (.cells false 1 ((VI E.old E.last (seen++[x.2.2])).map fun s=>.string (str s))))):=by
    rw[Z.old]
    simp only[Ji]
    rw[if_pos ⟨rfl,by simp only[List.length_cons,List.length_nil,List.length_map,Vz];omega,rfl⟩]
    rcases syncV_step (old:=E.old) (seen:=seen) I.ok.keys hx with h1|⟨y,hy,aw,ay⟩
    ·rw[←h1]
     simp only[setL,List.map_set]
    ·exact absurd (nodup_born I.ok.born hy hx ay) aw
   refine R5 @ab @g0 @g1 @and_self @ah ?_
   refine JK [0,18] ?_
   refine⟨_,tR _,_,⟨seen++[x.2.2],rfl,by rw[Mem.get_set_ne (Ne.symm af)];exact ae,?_,?_,?_⟩,U⟩
   ·exact⟨⟨by simp only[Vz];exact I.ok.n,by simp only[Vz];exact I.ok.pos,fun s hs=>syncV_size I.ok _ hs,I.ok.keys,I.ok.born,I.ok.clock,fun x hx=>by simp only[Vz];exact I.ok.within x hx,I.ok.fuse,trivial⟩,⟨s3,by rw[Mem.get_set_ne (Ne.symm I.pg),ab];simp only[dskC,Vz]⟩,by rw[Mem.get_set_ne (Ne.symm I.qg)];exact Z.kv,Mem.get_set_same Z.old _,I.pq,I.pg,I.qg⟩
   ·exact ai.trans ((by rw[a6];exact Only.set (by simp) _:Only [g,r] M' M3).trans (Only.set (by simp) _))
   ·rw[Mem.size_set,a6,Mem.size_set,am]
def markE:List UInt8:=[83,76,69,49]
def JN(s:List UInt8):List UInt8:=Lib.trimB s 0
def lastV(s:List UInt8):Int×Int:=
 if Lib.hasPrefix s markE=true then
  (if(Sha.num ((s.drop 4).take 4):Int)<1∨JN (s.drop 8)≠ []then(0,2)else((Sha.num ((s.drop 4).take 4):Nat),0))
 else if JN s=[]then(0,0)else(0,2)
def Dsk.lastE(d:Dsk)(i:Int):Int×Int:=if d.may i=0 then lastV (d.sector i.toNat)else(0,d.may i)
theorem take_spec(s:ByteArray)(k:Nat)(hk1:1≤k)(hk:k≤6)(hs:k≤s.size)(hsz:s.size≤140737488355327)(m:Mem):
 Abs.Spec qc 87 [.string s,.int .i64 (k:Nat)] m fun u M=>u=.tuple #[.int .i64 (Sha.num (s.data.toList.take k):Nat),.string (str (s.data.toList.drop k)),.int .i64 0]∧M=m:=by
 have h:=Abs.Spec.of_flat (P:=qc) (k:=87) (xs:=[.string s,.int .i64 (k:Nat)]) (m:=m) (v:=.tuple #[.int .i64 (Sha.num (s.data.toList.take k):Nat),.string (s.extract k s.size),.int .i64 0]) (by simp[flat]) rfl (fun w=>take_any s k hk1 hk hs hsz w)
 have e:s.extract k s.size=str (s.data.toList.drop k):=by
  rw[←bsub_eq]
  unfold bsub str
  rw[List.take_of_length_le (by rw[List.length_drop,Array.length_toList];exact qd _)]
 rw[e]at h
 exact h
theorem Kq(n:Int)(k:Nat)(hk1:1≤k)(hk:k≤8)(m:Mem):
 Abs.Spec qc 127 [.int .i64 n,.int .i64 (k:Nat)] m fun u M=>u=.string (str (Sha.fixed n k))∧M=m:=
 Abs.Spec.of_flat (by simp[flat]) rfl fun w=>fixed_any n k hk1 hk w
theorem beq_nilS(l:List UInt8):UW (str l) ⟨#[]⟩=decide (l=[]):=by
 show(l==[])=_
 cases l<;>simp
theorem last_spec(M:Mem)(p q g:Nat)(d:Dsk)(hd:DskAt M p q g d)(i:Int):
 Abs.Spec qc 97 [dp p,.int .i64 i] M fun u M'=>u=.tuple #[.int .i64 (d.lastE i).1,.int .i64 (d.lastE i).2]∧M'=M:=by
 refine Abs.Spec.walkM Tryz.func97 (by rfl) _ Tryz.results97 _ Tryz.ntmps97 (by simp[dp]) ?_
 intro hc hx k
 obtain⟨E,I⟩:∃E,E=d.lastE i:=⟨_,rfl⟩
 rw[←I]
 unfold Dsk.lastE at I
 refine J0 (R0 ?_)
 refine J0 (R0 ?_)
 refine K0 (read_spec M p q g d hd i) ?_
 unfold Dsk.read
 refine J0 (J0 (R0 ?_))
 by_cases hm:d.may i=0
 ·rw[if_pos hm]at I ⊢
  have Y:(d.sector i.toNat).length=256:=by
   refine hd.ok.sector ?_
   have:=hm
   unfold Dsk.may at this
   have hp:=hd.ok.pos
   split at this
   ·cases this
   ·split at this
    ·cases this
    ·omega
  obtain⟨s,hs⟩:∃s,s=d.sector i.toNat:=⟨_,rfl⟩
  rw[←hs]at I Y ⊢
  simp only
  refine CF (J3 ?_)
  refine S0 ?_
  refine J0 (R0 ?_)
  refine K0 (cutPrefix_spec (str s) (str markE) _) ?_
  have e1:(str s).data.toList=s:=rfl
  have e2:(str markE).data.toList=markE:=rfl
  rw[e1,e2]
  unfold lastV at I
  refine J0 (J0 (R0 ?_))
  cases hpre:Lib.hasPrefix s markE
  ·rw[hpre,if_neg (by simp)]at I
   refine CT (J0 (J0 (R0 ?_)))
   refine⟨by kernel_rfl,_,UB (str s) 0 (by decide) (by show s.length≤_;omega) _,?_⟩
   rintro _ M9 ⟨rfl,O⟩;replace O:=O.symm;subst O
   rw[e1]
   refine S1 @beq_nilS ?_
   refine CC (decide (Lib.trimB s 0=[])) (fun h=>J0 (J1 ?_)) (fun h=>J3 ?_)
   ·have h:=of_decide_eq_true h
    refine S0 ?_
    refine T0 ?_
    rw[if_pos (show JN s=[]from h)]at I
    subst I
    exact⟨_,tR _,rfl,rfl⟩
   ·have h:=of_decide_eq_false h
    refine S0 ?_
    refine J0 (R0 ?_)
    refine T0 ?_
    rw[if_neg (show¬JN s=[]from h)]at I
    subst I
    exact⟨_,tR _,rfl,rfl⟩
  ·rw[hpre,if_pos rfl]at I
   refine CF (J3 ?_)
   refine S0 ?_
   have a2:Lib.trimPrefix s markE=s.drop 4:=by unfold Lib.trimPrefix;rw[if_pos hpre];rfl
   rw[a2]
   refine J0 (R0 ?_)
   refine⟨by kernel_rfl,_,take_spec (str (s.drop 4)) 4 (by omega) (by omega) (by show 4≤(s.drop 4).length;simp;omega) (by show(s.drop 4).length≤_;simp;omega) _,?_⟩
   rintro _ M9 ⟨rfl,O⟩;replace O:=O.symm;subst O
   have e3:(str (s.drop 4)).data.toList=s.drop 4:=rfl
   rw[e3,List.drop_drop]
   obtain⟨n,hn⟩:∃n,n=Sha.num ((s.drop 4).take 4):=⟨_,rfl⟩
   rw[←hn]at I ⊢
   simp only[zZ,reduceIte,yQ,yW,yX,yZ,yJ,yK,yV,zDk,Jc,Jb,J9,J8,yV]
   refine J0 (J0 (J1 ?_))
   have e4:(str (s.drop 8)).data.toList=s.drop 8:=rfl
   have U:∀b:Bool,(b=true↔((n:Int)<1∨JN (s.drop 8)≠ []))→E=if b=true then(0,2)else((n:Int),0):=fun b hb=>by
    rw[I]
    by_cases h:(n:Int)<1∨JN (s.drop 8)≠ []
    ·rw[if_pos h,if_pos (hb.2 h)]
    ·rw[if_neg h,if_neg (fun q=>h (hb.1 q))]
   have a7:∀b:Bool,(b=true↔((n:Int)<1∨JN (s.drop 8)≠ []))→True:=fun _ _=>trivial
   cases q1:decide ((n:Int)<1)
   ·have Z:=of_decide_eq_false q1
    refine S1 @q1 ?_
    refine⟨by kernel_rfl,_,UB (str (s.drop 8)) 0 (by decide) (by show(s.drop 8).length≤_;simp;omega) _,?_⟩
    rintro _ M9 ⟨rfl,O⟩;replace O:=O.symm;subst O
    rw[e4]
    simp only[zZ,reduceIte,yQ,yW,yX,yZ,yJ,yK,yV,zDk,Jc,Jb,J9,J8,bne,beq_nilS,q1]
    refine CC (!decide (Lib.trimB (s.drop 8) 0=[])) (fun h=>J0 (J1 ?_)) (fun h=>J3 ?_)
    ·refine S0 ?_
     refine T0 ?_
     have:=U true (by simpa using .inr (by simpa[JN]using h))
     subst this
     exact⟨_,tR _,rfl,rfl⟩
    ·refine S0 ?_
     refine J0 (R0 ?_)
     refine T0 ?_
     have:=U false (by
      have h:JN (s.drop 8)=[]:=by simpa[JN]using h
      simp[h];omega)
     subst this
     exact⟨_,tR _,rfl,rfl⟩
   ·have Z:=of_decide_eq_true q1
    refine S1 @q1 ?_
    refine CT (J0 (R0 ?_))
    refine T0 ?_
    have:=U true (by simpa using .inl Z)
    subst this
    exact⟨_,tR _,rfl,rfl⟩
 ·rw[if_neg hm]at I ⊢
  refine Qd true (by simp only;simp[hm,AL.look,AL.get]) (fun _=>J0 (J1 ?_)) (fun h=>by cases h)
  refine S0 ?_
  refine T0 ?_
  subst I
  exact⟨_,tR _,rfl,rfl⟩
end Go.Proofs.YthohbneadomgdaaGreatDoor
namespace Go.Proofs.YthohbneadomgdaaGreatDoor.Abs
open Go
theorem frame_init{n:Nat→Prop}{ι:Nat→Loc}{xs ys:List Value}{fn:Func}(hys:VRels n ι xs ys):ARel n ι (ZY fn xs) { tmps:=ys.toArray++Array.replicate (fn.ntmps-ys.toArray.size) undef,defers:=[] }:=by
 refine⟨rfl,?_⟩
 simp only[Array.toList_append,Array.toList_replicate,List.size_toArray]
 rw[←hys.1]
 unfold ZY
 refine VRels.append hys ⟨rfl,fun i x y hx hy=>?_⟩
 rw[hx]at hy
 cases hy
 have:=List.mem_of_getElem? hx
 rw[List.mem_replicate]at this
 rw[this.2]
 exact Xt
theorem Spec.of_defer{P:Program}{k k':FuncId}{fn fn':Func}{c0 c2 c':Code}{id:Nat}{o1 o2:Oper}{t:Nat}{caps:Array Operand}{xs:List Value}{m:Mem}{R:Value→Mem→Prop}
 (hf:P.funcs[k]?=some fn) (hb:fn.body=some (.seq c0 (.seq (.region id #[o1,o2] false) c2)))
 (ho1:o1.op=.makeFunc (.func k') #[] caps) (hd1:o1.dst=some t) (hg1:o1.guard=none) (ho2:o2.op=.defer { callee:=.value (.tmp t),args:=#[],argTypes:=#[] }) (hd2:o2.dst=none) (hg2:o2.guard=none)
 (he:Qg P k'=true) (hf':P.funcs[k']?=some fn') (hb':fn'.body=some c')
 (h:AW P c0 (fun e a1 m1=>e=.normal∧∃l,ZS a1 caps.toList=some l∧t<a1.length∧
  ∀D:Defs,@AW D P c2 (fun e a2 m2=>(e=.ret∨e=.normal)∧@AW defsNil P c' (fun e' a3 m3=>(e'=.ret∨e'=.normal)∧(∃u,ZJ P fn'.results.toList a3 m3=some u)∧∃u,ZJ P fn.results.toList a2 m3=some u∧R u m3) (ZY fn' l) m2)
   (a1.set t (.func (.func k') #[] l.toArray)) m1) (ZY fn xs) m):Spec P k xs m R:=by
 intro ι w ys av hr
 refine calls_of_wp_defers hf hb ?_
 refine wp_seq (wp_mono (h ι m w ι _ w (Step.refl _ _ _) (frame_init av) hr) ?_)
 rintro e act w1 ⟨κ,a1,m1,⟨rfl,l,hl,aE,h2⟩,ha,aw,aJ⟩
 refine wp_seq (wp_region_list ?_)
 have au:=ZR ha hl
 obtain⟨cs,ak⟩:∃cs,cs=caps.map act.eval:=⟨_,rfl⟩
 have hlc:VRels m1.Has κ l cs.toList:=by rw[ak,Array.toList_map];exact au
 have aq:act.tmps.size=a1.length:=by have:=ha.tmps.1;simpa using this.symm
 have hw:∀(o:Oper)(y:Nat→Option Bool),o.guard=none→Region.wanted o y=true:=fun o y hg=>by unfold Region.wanted;rw[hg]
 have am:(execOp act.eval o1).run P w1=.ok (.value (.func (.func k') #[] cs)) w1:=by
  simp[execOp,ho1,ak,Instr.makeFunc]
 obtain⟨E,O⟩:∃E,E=act.put (some t) (.func (.func k') #[] cs):=⟨_,rfl⟩
 have a6:E.eval (.tmp t)=.func (.func k') #[] cs:=by
  rw[O]
  simp[Act.eval,Act.put,aq,aE]
 have ah:(execOp E.eval o2).run P w1=.ok (.defer ⟨.fn (.func k') cs,#[]⟩) w1:=by
  unfold execOp
  rw[ho2]
  simp[resolve,a6,Deferred.ofValue]
 have ai:({ E with defers:=⟨.fn (.func k') cs,#[]⟩::E.defers }:Act).put o2.dst undef={ tmps:=E.tmps,defers:=[⟨.fn (.func k') cs,#[]⟩] }:=by
  have:E.defers=[]:=by rw[O];exact ha.defers
  rw[hd2,this]
  rfl
 simp only[wpList]
 rw[if_pos (hw _ _ hg1)]
 left
 unfold Oper.wp
 rw[am,Oper.upon_value,hd1,←O]
 rw[if_pos (hw _ _ hg2)]
 left
 rw[ah,Oper.upon_defer,ai]
 have aI:ARel m1.Has κ (a1.set t (.func (.func k') #[] l.toArray)) E:=by
  rw[O]
  refine ha.put t (.func _ _ _ _ _ rfl (fun i x y hx=>by simp at hx) ?_ fun i x y hx hy=>?_)
  ·have:=hlc.1;simpa using this
  ·exact hlc.2 i x y (by simpa using hx) (by simpa using hy)
 have ap:@ARel ⟨[⟨.fn (.func k') cs,#[]⟩]⟩ m1.Has κ (a1.set t (.func (.func k') #[] l.toArray)) { tmps:=E.tmps,defers:=[⟨.fn (.func k') cs,#[]⟩] }:=@ARel.mk ⟨[⟨.fn (.func k') cs,#[]⟩]⟩ _ _ _ _ rfl aI.tmps
 refine wp_mono (h2 ⟨[⟨.fn (.func k') cs,#[]⟩]⟩ κ m1 w1 κ _ w1 (Step.refl _ _ _) ap aw) ?_
 rintro e I Z ⟨μ,a2,m2,⟨ar,az⟩,an,aC,hs2⟩
 have Y:I.defers=[⟨.fn (.func k') cs,#[]⟩]:=@ARel.defers ⟨[⟨.fn (.func k') cs,#[]⟩]⟩ _ _ _ _ an
 have ag:(invoke (.fn (.func k') cs) #[]).run P Z=.ok (.enter k' cs) Z:=by
  unfold Qg at he
  rw[hf']at he
  simp only[Bool.and_eq_true,Bool.not_eq_true']at he
  have aD:fn'.body.isNone=false:=by rw[hb'];rfl
  simp only[invoke,callFunc,Sem.run_bind,run_program,Result.andThen_ok,hf',he.2,aD,Bool.false_eq_true,if_false,Array.empty_append]
  rfl
 have aj:VRels m2.Has μ l cs.toList:=hlc.mono hs2.grows hs2.at_
 have U:Leaves P fn I.tmps (fun e w'=>∃v v' κ m',R v m'∧e=.returned v'∧VRel m'.Has κ v v'∧Rel κ m' w'∧Step ι m w κ m' w') [⟨.fn (.func k') cs,#[]⟩] .returning Z:=by
  refine leaves_cons (by simp) ag (CallsD.mono (callsD_of_wp (R:=fun e w'=>∃v',e=.returned v'∧∃u0,(results fn I.tmps).run P w'=.ok u0 w'∧∃v v' κ m',R v m'∧Ending.returned u0=.returned v'∧VRel m'.Has κ v v'∧Rel κ m' w'∧Step ι m w κ m' w') hf' hb' ?_) ?_)
  ·have al:=frame_init (fn:=fn') aj
   rw[Array.toArray_toList]at al
   refine wp_mono (az μ m2 Z μ _ Z (Step.refl _ _ _) al aC) ?_
   rintro e af w3 ⟨ν,a3,m3,⟨aA,⟨u1,aH⟩,u,hu,hR⟩,ab,a8,a7⟩
   obtain⟨v1,ax,_⟩:=aAnswer_run ab a8 aH
   have ae:@ARel ⟨[⟨.fn (.func k') cs,#[]⟩]⟩ m3.Has ν a2 I:=@ARel.mono ⟨[⟨.fn (.func k') cs,#[]⟩]⟩ _ _ _ _ a7.grows a7.at_ _ _ an
   obtain⟨v2,aF,ay⟩:=@aAnswer_run _ _ _ ⟨[⟨.fn (.func k') cs,#[]⟩]⟩ _ _ _ _ _ ae a8 hu
   have key:∃v,(results fn' af.tmps).run P w3=.ok v w3∧∃v',Ending.returned v=.returned v'∧∃u0,(results fn I.tmps).run P w3=.ok u0 w3∧∃v v' κ m',R v m'∧Ending.returned u0=.returned v'∧VRel m'.Has κ v v'∧Rel κ m' w3∧Step ι m w κ m' w3:=
    ⟨v1,ax,v1,rfl,v2,aF,u,v2,ν,m3,hR,rfl,ay,a8,(aJ.trans hs2).trans a7⟩
   rcases aA with rfl|rfl
   ·exact⟨ab.defers,key⟩
   ·exact⟨ab.defers,key⟩
  ·rintro e u' w' ⟨rfl,v',rfl,u0,aG,hR⟩
   exact⟨u0,aG,hR⟩
 rcases ar with rfl|rfl
 ·show Leaves P fn I.tmps _ I.defers .returning Z
  rw[Y];exact U
 ·show Leaves P fn I.tmps _ I.defers .returning Z
  rw[Y];exact U
end Go.Proofs.YthohbneadomgdaaGreatDoor.Abs
namespace Go.Proofs.YthohbneadomgdaaGreatDoor.Abs
open Go Go.RowKit
theorem sAnswer_spec{P:Program}{rs:List ResultVar}{n:Nat}{f:AL}{a:List Value}{m:Mem}(h1:Knows n f a){v:Value}(hv:sAnswer P rs f m=some v):ZJ P rs a m=some v:=by
 unfold sAnswer at hv
 unfold ZJ
 split at hv<;>first|(cases hv;done)|skip
 ·rename_i v0 hv0;cases hv;simp only[VA h1 _ _ hv0]
 ·rename_i l hne hl
  cases hv
  simp only[VA h1 _ _ hl]
theorem knows_frame{xs:List Value}{fn:Func}(hx:xs.length≤fn.ntmps):Knows fn.ntmps (alOf 0 xs) (ZY fn xs):=by
 refine⟨by simp[ZY];omega,fun t v hv=>?_⟩
 obtain⟨_,h2⟩:=alOf_get xs 0 t v hv
 unfold ZY
 rw[List.getElem?_append,if_pos]
 ·exact h2
 ·exact(List.getElem?_eq_some_iff.1 h2).1
def dEnd(P:Program)(c':Code)(n':Nat)(l:List Value)(rs:List ResultVar)(R:Value→Mem→Prop)(e:Exit)(f2:AL)(m2:Mem):Prop:=
 (e=.ret∨e=.normal)∧@SW defsNil P n' c' (fun e' _ m3=>(e'=.ret∨e'=.normal)∧∃u,sAnswer P rs f2 m3=some u∧R u m3) (alOf 0 l) m2
theorem Spec.walk_defer{P:Program}{k k':FuncId}{fn fn':Func}{c0 c2 c':Code}{id:Nat}{o1 o2:Oper}{t:Nat}{caps:Array Operand}{xs:List Value}{m:Mem}{R:Value→Mem→Prop}
 (hf:P.funcs[k]?=some fn) (hb:fn.body=some (.seq c0 (.seq (.region id #[o1,o2] false) c2)))
 (ho1:o1.op=.makeFunc (.func k') #[] caps) (hd1:o1.dst=some t) (hg1:o1.guard=none) (ho2:o2.op=.defer { callee:=.value (.tmp t),args:=#[],argTypes:=#[] }) (hd2:o2.dst=none) (hg2:o2.guard=none)
 (he:Qg P k'=true) (hf':P.funcs[k']?=some fn') (hb':fn'.body=some c') (hr':fn'.results=#[]) (rs:Array ResultVar) (hr:fn.results=rs) (n:Nat) (hn:fn.ntmps=n) (hx:xs.length≤n) (htn:t<n) (n':Nat) (hn':fn'.ntmps=n')
 (h:SW P n c0 (fun e f1 m1=>e=.normal∧∃l,sArgs (AL.look f1) caps.toList=some l∧l.length≤n'∧
  ∀D:Defs,@SW D P n c2 (dEnd P c' n' l rs.toList R) ((t,.func (.func k') #[] l.toArray)::f1) m1) (alOf 0 xs) m):Spec P k xs m R:=by
 subst hr;subst hn;subst hn'
 refine Spec.of_defer hf hb ho1 hd1 hg1 ho2 hd2 hg2 he hf' hb' ((h _ (knows_frame hx)).mono ?_)
 rintro e a1 m1 ⟨f1,k1,rfl,l,hl,Z,h2⟩
 have E:∀e I O U,Knows fn.ntmps I O→dEnd P c' fn'.ntmps l fn.results.toList R e I U→
  (e=.ret∨e=.normal)∧AW P c' (fun e' a3 Y=>(e'=.ret∨e'=.normal)∧(∃u,ZJ P fn'.results.toList a3 Y=some u)∧∃u,ZJ P fn.results.toList O Y=some u∧R u Y) (ZY fn' l) U:=by
  rintro e I O U k2 ⟨ab,h3⟩
  refine⟨ab,(h3 _ (knows_frame Z)).mono ?_⟩
  rintro e' a3 Y ⟨f3,k3,aa,u,hu,hR⟩
  refine⟨aa,⟨.tuple #[],by rw[hr'];rfl⟩,u,sAnswer_spec k2 hu,hR⟩
 refine⟨rfl,l,?_,by rw[k1.1];exact htn,fun D=>?_⟩
 ·rw[VM]at hl
  exact Xo k1.look _ hl
 ·have:=h2 D _ (k1.put htn (.func (.func k') #[] l.toArray))
  refine @AW.mono D _ _ _ _ _ _ this ?_
  rintro e O U ⟨I,k2,h3⟩
  exact E e I O U k2 h3
end Go.Proofs.YthohbneadomgdaaGreatDoor.Abs
namespace Go.Proofs.YthohbneadomgdaaGreatDoor
open Go.RowKit Abs
def Jm(n:Int):List UInt8:=markE++Sha.fixed n 4
def Dsk.nextE(d:Dsk)(i:Int):Dsk×Int×Int:=
 if(d.lastE i).2≠0 then(d,0,(d.lastE i).2)else if 4294967295<(d.lastE i).1+1 then(d,0,3)else
 if(d.write i (Jm ((d.lastE i).1+1))).2≠0 then((d.write i (Jm ((d.lastE i).1+1))).1,0,(d.write i (Jm ((d.lastE i).1+1))).2)else
 if((d.write i (Jm ((d.lastE i).1+1))).1.sync).2≠0 then(((d.write i (Jm ((d.lastE i).1+1))).1.sync).1,0,((d.write i (Jm ((d.lastE i).1+1))).1.sync).2)else
 (((d.write i (Jm ((d.lastE i).1+1))).1.sync).1,(d.lastE i).1+1,0)
theorem text_spec(n:Int)(m:Mem):Abs.Spec qc 98 [.int .i64 n] m fun u M=>u=.string (str (Jm n))∧M=m:=by
 refine K5 Tryz.func98 Tryz.results98 Tryz.ntmps98 fun hc hx k=>?_
 have E:JC (str markE)+JC (str (Sha.fixed n 4))≤4611686018427387904:=by show 4+(Sha.fixed n 4).length≤_;rw[Sha.fixed_length];decide
 refine J0 (R0 ?_)
 refine J0 (R0 ?_)
 refine K0 (Kq n 4 (by omega) (by omega) _) ?_
 refine⟨E,?_⟩
 refine T0 ?_
 exact⟨_,tR _,rfl,rfl⟩
theorem num4(l:List UInt8)(h:l.length≤4):(Sha.num l:Int)≤4294967295:=by
 have I:=Sha.num_lt l
 have h2:256^l.length≤256^4:=Nat.pow_le_pow_right (by decide) h
 have E:(256:Nat)^4=4294967296:=by decide
 omega
theorem lastE_range(d:Dsk)(i:Int):0≤(d.lastE i).1∧(d.lastE i).1≤4294967295:=by
 unfold Dsk.lastE lastV
 split
 ·split
  ·split
   ·exact⟨Int.le_refl _,by decide⟩
   ·exact⟨Int.natCast_nonneg _,num4 _ (by rw[List.length_take];omega)⟩
  ·split<;>exact⟨Int.le_refl _,by decide⟩
 ·exact⟨Int.le_refl _,by show(0:Int)≤4294967295;decide⟩
theorem next_spec(M:Mem)(p q g:Nat)(d:Dsk)(hd:DskAt M p q g d)(i:Int):
 Abs.Spec qc 46 [dp p,.int .i64 i] M fun u M'=>u=.tuple #[.int .i64 (d.nextE i).2.1,.int .i64 (d.nextE i).2.2]∧DskAt M' p q g (d.nextE i).1∧Only [p,q,g] M M'∧M.size≤M'.size:=by
 obtain⟨E,Z⟩:∃E,E=d.nextE i:=⟨_,rfl⟩
 rw[←Z]
 refine Abs.Spec.walk_defer (k':=96) Tryz.func46 (by rfl) rfl rfl rfl rfl rfl rfl (by kernel_rfl) Tryz.func96 (by rfl) Tryz.results96 _ Tryz.results46 _ Tryz.ntmps46 (by simp[dp]) (by decide) _ Tryz.ntmps96 ?_
 refine J2 ?_
 simp only[zS,reduceIte,yQ,yW,yX,yZ,yJ,yK,yV,zDk,Jc,Jb,J9,J8,zZ]
 generalize J6 qc 3=s1
 generalize J6 qc 37=s2
 obtain⟨M1,aa⟩:∃M1,M1=(M.push (.cells false s1 [.int .i64 0])).push (.cells false s2 [.int .i64 0]):=⟨_,rfl⟩
 obtain⟨I,aG⟩:∃I,I=M.size:=⟨_,rfl⟩
 obtain⟨O,aI⟩:∃O,O=M.size+1:=⟨_,rfl⟩
 have ac:∀b x,M.get b=some x→M1.get b=some x:=fun b x hb=>by
  have:=Qb hb
  rw[aa,Mem.get_push_old (by rw[Mem.size_push];omega),Mem.get_push_old this];exact hb
 have ax:M1.get I=some (.cells false s1 [.int .i64 0]):=by rw[aa,aG,Mem.get_push_old (by rw[Mem.size_push];omega),Mem.get_push_new]
 have aF:M1.get O=some (.cells false s2 [.int .i64 0]):=by
  have:=Mem.get_push_new (M.push (.cells false s1 [.int .i64 0])) (.cells false s2 [.int .i64 0])
  rw[Mem.size_push]at this
  rw[aa,aI];exact this
 have bo:M1.size=M.size+2:=by rw[aa];simp only[Mem.size_push]
 have aK:=hd.same ac
 have bb:p<M.size:=by obtain⟨s,h⟩:=hd.row;exact Qb h
 have bi:q<M.size:=Qb hd.kv
 have bj:g<M.size:=Qb hd.old
 rw[Mem.size_push,←aa,←aI,←aG]
 refine⟨_,rfl,by show 2≤4;decide,?_⟩
 generalize hQ:dEnd qc _ _ _ _ _=Q
 have U:∀(f2:AL)(m2:Mem)(d':Dsk)(n e:Int),AL.get f2 4=some (.pointer (some ⟨I,0,none⟩))→AL.get f2 5=some (.pointer (some ⟨O,0,none⟩))→m2.get I=some (.cells false s1 [.int .i64 n])→m2.get O=some (.cells false s2 [.int .i64 e])→
  DskAt m2 p q g d'→Only [p,q,g] M m2→M.size≤m2.size→E=(d',if e=0 then n else 0,e)→Q .ret f2 m2:=fun f2 m2 d' n e h4 h5 gn ge gd go gs gE=>by
  rw[←hQ]
  have aq:∀(m3:Mem)(n e:Int),m3.get I=some (.cells false s1 [.int .i64 n])→m3.get O=some (.cells false s2 [.int .i64 e])→sAnswer qc [.cell 4 3,.cell 5 37] f2 m3=some (.tuple #[.int .i64 n,.int .i64 e]):=fun m3 n e g1 g2=>by
   have l1:UZ qc m3 3 (.pointer (some ⟨I,0,none⟩))=some (.int .i64 n):=by simp only[Q4,zDk,Jc,Jb,J9,J8,g1];rfl
   have l2:UZ qc m3 37 (.pointer (some ⟨O,0,none⟩))=some (.int .i64 e):=by simp only[Q4,zDk,Jc,Jb,J9,J8,g2];rfl
   simp only[sAnswer,sAnswer.sRes,h4,h5,l1,l2]
  refine⟨.inl rfl,J4 (J2 ?_)⟩
  simp only[zS,reduceIte,yQ,yW,yX,yZ,yJ,yK,yV,zDk,Jc,Jb,J9,J8,zZ,ge]
  refine Q2 (e !=0) (by rfl) (fun h=>J2 ?_) (fun h=>Q5 ?_)
  ·have h:e≠0:=by simpa using h
   simp only[zS,reduceIte,yQ,yW,yX,yZ,yJ,yK,yV,zDk,Jc,Jb,J9,J8,zZ,gn]
   refine⟨.inr trivial,_,aq _ 0 e (Mem.get_set_same gn _) (by rw[Mem.get_set_ne (by omega)];exact ge),?_⟩
   rw[gE,if_neg h]
   refine⟨rfl,gd.only (Only.set (l:=[I]) (by simp) _) (by simp;omega) (by simp;omega) (by simp;omega),fun b x hb hx=>?_,by rw[Mem.size_set];omega⟩
   rw[Mem.get_set_ne (by have:=Qb hx;omega)]
   exact go b x hb hx
  ·have h:e=0:=by simpa using h
   simp only[zS,reduceIte,yQ,yW,yX,yZ,yJ,yK,yV,zDk,Jc,Jb,J9,J8,zZ]
   refine⟨.inr trivial,_,aq _ n e gn ge,?_⟩
   rw[gE,if_pos h]
   exact⟨rfl,gd,go,by omega⟩
 clear hQ
 intro D
 refine J4 (J4 (J2 ?_))
 simp only[zS,reduceIte,yQ,yW,yX,yZ,yJ,yK,yV,zDk,Jc,Jb,J9,J8,zZ]
 refine⟨by kernel_rfl,_,last_spec M1 p q g d aK i,?_⟩
 rintro _ M9 ⟨rfl,e9⟩;replace e9:=e9.symm;subst e9
 obtain⟨N,hN⟩:∃N,N=(d.lastE i).1:=⟨_,rfl⟩
 obtain⟨e,he⟩:∃e,e=(d.lastE i).2:=⟨_,rfl⟩
 unfold Dsk.nextE at Z
 rw[←hN,←he]at Z ⊢
 have a2:∀(m:Mem)(x:Option Blk),(m.set I x).get O=m.get O:=fun m x=>Mem.get_set_ne (by omega) x
 have ay:∀(m:Mem)(x:Option Blk),(m.set O x).get I=m.get I:=fun m x=>Mem.get_set_ne (by omega) x
 have ae:∀(m:Mem)(d':Dsk)(n e n' e':Int),m.get I=some (.cells false s1 [.int .i64 n])→m.get O=some (.cells false s2 [.int .i64 e])→DskAt m p q g d'→Only [p,q,g] M m→M.size≤m.size→
  ∃m2,m2=(m.set I (some (.cells false s1 [.int .i64 n']))).set O (some (.cells false s2 [.int .i64 e']))∧m2.get I=some (.cells false s1 [.int .i64 n'])∧m2.get O=some (.cells false s2 [.int .i64 e'])∧DskAt m2 p q g d'∧Only [p,q,g] M m2∧M.size≤m2.size:=fun m d' n e n' e' gn ge gd go gs=>by
  refine⟨_,rfl,by rw[ay];exact Mem.get_set_same gn _,Mem.get_set_same (by rw[a2];exact ge) _,(gd.only (Only.set (l:=[I]) (by simp) _) (by simp;omega) (by simp;omega) (by simp;omega)).only (Only.set (l:=[O]) (by simp) _) (by simp;omega) (by simp;omega) (by simp;omega),fun b x hb hx=>?_,by rw[Mem.size_set,Mem.size_set];omega⟩
  have:=Qb hx
  rw[Mem.get_set_ne (by omega),Mem.get_set_ne (by omega)]
  exact go b x hb hx
 have aH:∀(m:Mem)(d':Dsk)(n e n':Int),m.get I=some (.cells false s1 [.int .i64 n])→m.get O=some (.cells false s2 [.int .i64 e])→DskAt m p q g d'→Only [p,q,g] M m→M.size≤m.size→
  ∃m2,m2=m.set I (some (.cells false s1 [.int .i64 n']))∧m2.get I=some (.cells false s1 [.int .i64 n'])∧m2.get O=some (.cells false s2 [.int .i64 e])∧DskAt m2 p q g d'∧Only [p,q,g] M m2∧M.size≤m2.size:=fun m d' n e n' gn ge gd go gs=>by
  refine⟨_,rfl,Mem.get_set_same gn _,by rw[a2];exact ge,gd.only (Only.set (l:=[I]) (by simp) _) (by simp;omega) (by simp;omega) (by simp;omega),fun b x hb hx=>?_,by rw[Mem.size_set];omega⟩
  have:=Qb hx
  rw[Mem.get_set_ne (by omega)]
  exact go b x hb hx
 have aA:∀(m:Mem)(d':Dsk)(n e e':Int),m.get I=some (.cells false s1 [.int .i64 n])→m.get O=some (.cells false s2 [.int .i64 e])→DskAt m p q g d'→Only [p,q,g] M m→M.size≤m.size→
  ∃m2,m2=m.set O (some (.cells false s2 [.int .i64 e']))∧m2.get I=some (.cells false s1 [.int .i64 n])∧m2.get O=some (.cells false s2 [.int .i64 e'])∧DskAt m2 p q g d'∧Only [p,q,g] M m2∧M.size≤m2.size:=fun m d' n e e' gn ge gd go gs=>by
  refine⟨_,rfl,by rw[ay];exact gn,Mem.get_set_same ge _,gd.only (Only.set (l:=[O]) (by simp) _) (by simp;omega) (by simp;omega) (by simp;omega),fun b x hb hx=>?_,by rw[Mem.size_set];omega⟩
  have:=Qb hx
  rw[Mem.get_set_ne (by omega)]
  exact go b x hb hx
 have aS:Only [p,q,g] M M1:=fun b x _ hx=>ac b x hx
 obtain⟨M2,aT,aj,ak,aL,aE,aB⟩:=ae M1 d 0 0 N e ax aF aK aS (by omega)
 simp only[zS,reduceIte,yQ,yW,yX,yZ,yJ,yK,yV,zDk,Jc,Jb,J9,J8,zZ,ax,a2,aF]
 rw[←aT]
 refine J4 (J2 ?_)
 simp only[zS,reduceIte,yQ,yW,yX,yZ,yJ,yK,yV,zDk,Jc,Jb,J9,J8,zZ,ak]
 refine Q2 (e !=0) (by rfl) (fun h=>J4 (SW_draw4L hmix 2 [1] (by kernel_rfl) ?_)) (fun h=>Q5 ?_)
 ·have h:e≠0:=by simpa using h
  rw[if_pos h]at Z
  obtain⟨M3,aw,a6,ad,ap,al,ar⟩:=ae M2 d N e N e aj ak aL aE aB
  simp only[zS,reduceIte,yQ,yW,yX,yZ,yJ,yK,yV,zDk,Jc,Jb,J9,J8,zZ,aj,ak,sQB,Zy,a2,Option.bind_some]
  refine⟨⟨_,rfl,rfl⟩,?_⟩
  rw[←aw]
  refine Xa ?_
  simp only[zS,reduceIte,yQ,yW,yX,yZ,yJ,yK,yV,zDk,Jc,Jb,J9,J8,zZ]
  exact U _ M3 d N e rfl rfl a6 ad ap al ar (by rw[Z,if_neg h])
 ·have h:e=0:=by simpa using h
  rw[if_neg (by simp[h])]at Z
  simp only[zS,reduceIte,yQ,yW,yX,yZ,yJ,yK,yV,zDk,Jc,Jb,J9,J8,zZ]
  have bm:0≤N∧N≤4294967295:=by rw[hN];exact lastE_range d i
  have w1:IntKind.i64.wrap (N+1)=N+1:=Xn (by omega) (by omega)
  obtain⟨M3,aw,a6,ad,ap,al,ar⟩:=aH M2 d N e (N+1) aj ak aL aE aB
  refine J4 (J4 (J2 ?_))
  simp only[zS,reduceIte,yQ,yW,yX,yZ,yJ,yK,yV,zDk,Jc,Jb,J9,J8,zZ,aj,w1]
  rw[←aw]
  refine J4 (J2 ?_)
  simp only[zS,reduceIte,yQ,yW,yX,yZ,yJ,yK,yV,zDk,Jc,Jb,J9,J8,zZ,a6]
  refine Q2 (decide (N+1>4294967295)) (by rfl) (fun h=>J4 (J2 ?_)) (fun h=>Q5 ?_)
  ·have h:=of_decide_eq_true h
   rw[if_pos (by omega)]at Z
   obtain⟨M4,aW,av,am,ai,a8,aC⟩:=ae M3 d (N+1) e (N+1) 3 a6 ad ap al ar
   simp only[zS,reduceIte,yQ,yW,yX,yZ,yJ,yK,yV,zDk,Jc,Jb,J9,J8,zZ,a6,a2,ad]
   rw[←aW]
   refine Xa ?_
   simp only[zS,reduceIte,yQ,yW,yX,yZ,yJ,yK,yV,zDk,Jc,Jb,J9,J8,zZ]
   exact U _ M4 d (N+1) 3 rfl rfl av am ai a8 aC (by rw[Z];rfl)
  ·have h:=of_decide_eq_false h
   rw[if_neg (by omega)]at Z
   simp only[zS,reduceIte,yQ,yW,yX,yZ,yJ,yK,yV,zDk,Jc,Jb,J9,J8,zZ]
   refine J4 (J4 (J2 ?_))
   simp only[zS,reduceIte,yQ,yW,yX,yZ,yJ,yK,yV,zDk,Jc,Jb,J9,J8,zZ,a6]
   refine⟨by kernel_rfl,_,text_spec (N+1) _,?_⟩
   rintro _ M9 ⟨rfl,e9⟩;replace e9:=e9.symm;subst e9
   simp only[zS,reduceIte,yQ,yW,yX,yZ,yJ,yK,yV,zDk,Jc,Jb,J9,J8,zZ]
   refine⟨by kernel_rfl,_,Z8 M3 p q g d ap i (Jm (N+1)) (by unfold Jm;rw[List.length_append,Sha.fixed_length];decide),?_⟩
   rintro _ M4 ⟨rfl,ai,a8,aC⟩
   obtain⟨W,hW⟩:∃W,W=d.write i (Jm (N+1)):=⟨_,rfl⟩
   rw[←hW]at Z ai ⊢
   have av:=a8 _ _ (by simp;omega) a6
   have am:=a8 _ _ (by simp;omega) ad
   have aM:=al.trans (a8.mono (l':=[p,q,g]) (by simp))
   obtain⟨M5,aY,ab,af,az,aJ,aV⟩:=aA M4 W.1 (N+1) e W.2 av am ai aM (by omega)
   simp only[zS,reduceIte,yQ,yW,yX,yZ,yJ,yK,yV,zDk,Jc,Jb,J9,J8,zZ,am]
   rw[←aY]
   refine J4 (J2 ?_)
   simp only[zS,reduceIte,yQ,yW,yX,yZ,yJ,yK,yV,zDk,Jc,Jb,J9,J8,zZ,af]
   refine Q2 (W.2 !=0) (by rfl) (fun h=>J4 (SW_draw4L hmix 2 [1] (by kernel_rfl) ?_)) (fun h=>Q5 ?_)
   ·have h:W.2≠0:=by simpa using h
    rw[if_pos h]at Z
    obtain⟨M6,aO,ao,ag,an,a7,aD⟩:=ae M5 W.1 (N+1) W.2 (N+1) W.2 ab af az aJ aV
    simp only[zS,reduceIte,yQ,yW,yX,yZ,yJ,yK,yV,zDk,Jc,Jb,J9,J8,zZ,ab,af,sQB,Zy,a2,Option.bind_some]
    refine⟨⟨_,rfl,rfl⟩,?_⟩
    rw[←aO]
    refine Xa ?_
    simp only[zS,reduceIte,yQ,yW,yX,yZ,yJ,yK,yV,zDk,Jc,Jb,J9,J8,zZ]
    exact U _ M6 W.1 (N+1) W.2 rfl rfl ao ag an a7 aD (by rw[Z,if_neg h])
   ·have h:W.2=0:=by simpa using h
    rw[if_neg (by simp[h])]at Z
    simp only[zS,reduceIte,yQ,yW,yX,yZ,yJ,yK,yV,zDk,Jc,Jb,J9,J8,zZ]
    refine J4 (SW_draw6L hmix 2 [0] (by kernel_rfl) ?_)
    simp only[zS,reduceIte,yQ,yW,yX,yZ,yJ,yK,yV,zDk,Jc,Jb,J9,J8,zZ,ab,sQB6]
    refine⟨by kernel_rfl,_,sync_spec M5 p q g W.1 az,?_⟩
    rintro _ M6 ⟨rfl,an,a7,aD⟩
    have ao:=a7 _ _ (by simp;omega) ab
    have ag:=a7 _ _ (by simp;omega) af
    obtain⟨Y,hY⟩:∃Y,Y=W.1.sync:=⟨_,rfl⟩
    rw[←hY]at Z an ⊢
    obtain⟨M7,aX,aZ,b6,aQ,aR,aP⟩:=ae M6 Y.1 (N+1) W.2 (N+1) Y.2 ao ag an (aJ.trans a7) (by omega)
    simp only[zS,reduceIte,yQ,yW,yX,yZ,yJ,yK,yV,zDk,Jc,Jb,J9,J8,zZ,ao,ag,Zy,a2,Option.bind_some]
    refine⟨⟨.int .i64 (N+1),by rw[ab];rfl,rfl⟩,?_⟩
    rw[←aX]
    refine Xa ?_
    refine U _ M7 Y.1 (N+1) Y.2 rfl rfl aZ b6 aQ aR aP ?_
    rw[Z]
    by_cases hy:Y.2=0
    ·rw[if_neg (by simp[hy]),if_pos hy,hy]
    ·rw[if_pos hy,if_neg hy]
end Go.Proofs.YthohbneadomgdaaGreatDoor
namespace Go.Proofs.YthohbneadomgdaaGreatDoor
open Go.ChangeShapes Go.WideShapes Go.ChangeAt Go.RowKit
structure Header where
 id:Int
 salt:ByteArray
 n:Int
 bytes:Int
 raw:Int
 root:ByteArray
 tag:ByteArray
def Header.cells(h:Header):List Value:=[.int .i64 h.id,.string h.salt,.int .i64 h.n,.int .i64 h.bytes,.int .i64 h.raw,.string h.root,.string h.tag]
end Go.Proofs.YthohbneadomgdaaGreatDoor
namespace Go.Proofs.YthohbneadomgdaaGreatDoor
open Go.RowKit
def Header.val(h:Header):Value:=.agg #[.int .i64 h.id,.string h.salt,.int .i64 h.n,.int .i64 h.bytes,.int .i64 h.raw,.string h.root,.string h.tag]
def Header.fields(h:Header):ByteArray:=((((((ByteArray.mk #[83,76,71,49])++str (Sha.fixed h.id 4))++h.salt)++str (Sha.fixed h.n 2))++str (Sha.fixed h.bytes 4))++str (Sha.fixed h.raw 4))++h.root
theorem fields_any(h:Header)(hs:h.salt.size≤140737488355327)(hr:h.root.size≤140737488355327)(w:World):
 Calls qc 69 #[h.val] w fun e w'=>e=.returned (.string h.fields)∧Below w.heap.size w w':=by
 obtain⟨id,salt,n,bytes,raw,root,tag⟩:=h
 simp only[Header.val,Header.fields]at*
 go_enter Tryz.func69,Tryz.ntmps69
 go_wp2_with fail
 refine region_pure (by kernel_rfl) (by kernel_rfl) fun I ne f hfb hback=>?_
 have O:=JH w (.cells #[.int .i64 id,.string salt,.int .i64 n,.int .i64 bytes,.int .i64 raw,.string root,.string tag] 34 (0,0))
 have d0:∀i,(f i).cell? ⟨w.heap.size,0,none⟩=some (.int .i64 id):=fun i=>by rw[(hfb i).cell (by simp),Ja O];rfl
 have Y:∀i,(f i).cell? ⟨w.heap.size,1,none⟩=some (.string salt):=fun i=>by rw[(hfb i).cell (by simp),Ja O];rfl
 have d2:∀i,(f i).cell? ⟨w.heap.size,2,none⟩=some (.int .i64 n):=fun i=>by rw[(hfb i).cell (by simp),Ja O];rfl
 have d3:∀i,(f i).cell? ⟨w.heap.size,3,none⟩=some (.int .i64 bytes):=fun i=>by rw[(hfb i).cell (by simp),Ja O];rfl
 have d4:∀i,(f i).cell? ⟨w.heap.size,4,none⟩=some (.int .i64 raw):=fun i=>by rw[(hfb i).cell (by simp),Ja O];rfl
 have Z:∀i,(f i).cell? ⟨w.heap.size,5,none⟩=some (.string root):=fun i=>by rw[(hfb i).cell (by simp),Ja O];rfl
 have q1:(str (Sha.fixed id 4)).size=4:=by rw[str_size,Sha.fixed_length]
 have q2:(str (Sha.fixed n 2)).size=2:=by rw[str_size,Sha.fixed_length]
 have q3:(str (Sha.fixed bytes 4)).size=4:=by rw[str_size,Sha.fixed_length]
 have q4:(str (Sha.fixed raw 4)).size=4:=by rw[str_size,Sha.fixed_length]
 have q0:(ByteArray.mk #[83,76,71,49]).size=4:=rfl
 have p1:¬(9223372036854775807<8+salt.size):=by omega
 have p2:¬(9223372036854775807<8+salt.size+2):=by omega
 have p3:¬(9223372036854775807<8+salt.size+2+4):=by omega
 have p4:¬(9223372036854775807<8+salt.size+2+4+4):=by omega
 have p5:¬(9223372036854775807<8+salt.size+2+4+4+root.size):=by omega
 have E:=Lib.hid hfb
 clear hfb O
 repeat(quiet_step ((go_at_call 127;exact pure_of E.out hback (fixed_i _ _ (by decide) (by decide) _))))
 refine wpQuiet_nil ?_
 intro i
 have U:=E.out i
 generalize f i=w3 at*
 have HB:=Lib.hid (((Below.refl w.heap.size w).alloc (qd _) _).trans (U.mono (by simp)))
 clear E d0 Y d2 d3 d4 Z hback U
 go_wp2
 go_ret
 exact⟨rfl,HB.out⟩
def Header.check(h:Header):Int:=
 if h.id<1 then 1 else if 4294967295<h.id then 1 else if h.salt.size≠16 then 1 else if h.root.size≠32 then 1 else if h.tag.size≠32 then 1
 else if h.bytes<1 then 1 else if 49152<h.bytes then 1 else if h.n≠(h.bytes+191)/192 then 1 else if h.raw<1 then 1 else if 134217728<h.raw then 1 else 0
theorem check_any(h:Header)(w:World):
 Calls qc 66 #[h.val] w fun e w'=>e=.returned (.int .i64 h.check)∧Below w.heap.size w w':=by
 obtain⟨id,salt,n,bytes,raw,root,tag⟩:=h
 simp only[Header.val]
 have hB:=fun o:Obj=>(Below.refl w.heap.size w).alloc (qd _) o
 have I:=Lib.hid hB
 clear hB
 obtain⟨r,E⟩:∃r,r=Header.check ⟨id,salt,n,bytes,raw,root,tag⟩:=⟨_,rfl⟩
 rw[←E]
 simp only[Header.check]at E
 go_enter Tryz.func66,Tryz.ntmps66
 by_cases c1:id<1
 ·rw[if_pos c1]at E;subst E;go_wp2;go_ret;exact⟨rfl,I.out _⟩
 rw[if_neg c1]at E
 by_cases c2:4294967295<id
 ·rw[if_pos c2]at E;subst E;go_wp2;go_ret;exact⟨rfl,I.out _⟩
 rw[if_neg c2]at E
 by_cases c3:salt.size=16
 case neg=>
  rw[if_pos c3]at E;subst E
  have U:¬(salt.size:Int)=16:=by omega
  go_wp2;go_ret;exact⟨rfl,I.out _⟩
 rw[if_neg (by simp[c3])]at E
 by_cases c4:root.size=32
 case neg=>
  rw[if_pos c4]at E;subst E
  have Y:¬(root.size:Int)=32:=by omega
  go_wp2;go_ret;exact⟨rfl,I.out _⟩
 rw[if_neg (by simp[c4])]at E
 by_cases c5:tag.size=32
 case neg=>
  rw[if_pos c5]at E;subst E
  have O:¬(tag.size:Int)=32:=by omega
  go_wp2;go_ret;exact⟨rfl,I.out _⟩
 rw[if_neg (by simp[c5])]at E
 by_cases c6:bytes<1
 ·rw[if_pos c6]at E;subst E;go_wp2;go_ret;exact⟨rfl,I.out _⟩
 rw[if_neg c6]at E
 by_cases c7:49152<bytes
 ·rw[if_pos c7]at E;subst E;go_wp2;go_ret;exact⟨rfl,I.out _⟩
 rw[if_neg c7]at E
 have Z:(bytes+191).tdiv 192=(bytes+191)/192:=Int.tdiv_eq_ediv_of_nonneg (by omega)
 by_cases c8:n=(bytes+191)/192
 case neg=>
  rw[if_pos c8]at E;subst E
  go_wp2;go_ret;exact⟨rfl,I.out _⟩
 rw[if_neg (by simp[c8])]at E
 by_cases c9:raw<1
 ·rw[if_pos c9]at E;subst E;go_wp2;go_ret;exact⟨rfl,I.out _⟩
 rw[if_neg c9]at E
 by_cases c10:134217728<raw
 ·rw[if_pos c10]at E;subst E;go_wp2;go_ret;exact⟨rfl,I.out _⟩
 rw[if_neg c10]at E
 subst E;go_wp2;go_ret;exact⟨rfl,I.out _⟩
theorem Header.check_cases(h:Header):h.check=1∨(h.check=0∧h.salt.size=16∧h.root.size=32∧h.tag.size=32):=by
 unfold Header.check
 repeat(split; ·exact .inl rfl)
 exact .inr ⟨rfl,by omega,by omega,by omega⟩
def Header.verify(key:List UInt8)(h:Header):Int:=if h.check=1 then 1 else if sameB (Sha.tag key h.fields.data.toList) h.tag.data.toList then 0 else 4
theorem Header.fields_size(h:Header):h.fields.size=18+h.salt.size+h.root.size:=by
 simp only[Header.fields,ByteArray.size_append,str_size,Sha.fixed_length]
 have:(ByteArray.mk #[83,76,71,49]).size=4:=rfl
 omega
theorem keep_cells{w w':World}{g:Nat}(hb:Below w.heap.size w w')(h:g<w.heap.size)(k:Nat):w'.cell? ⟨g,k,none⟩=w.cell? ⟨g,k,none⟩:=hb.cell h
theorem keep_below{w w1 w2:World}(hb:Below w1.heap.size w1 w2)(h:Below w.heap.size w w1):Below w.heap.size w w2:=h.trans (hb.mono h.size)
theorem Kx{w w1:World}{o:Obj}(h:Below w.heap.size w w1):Below w.heap.size w (w1.alloc o):=h.alloc h.size o
theorem Ug{w w1:World}(h:Below w.heap.size w w1):Below w.heap.size w w1.drew:=h.trans ((Same.drew w1).below _)
theorem verify_any(key:ByteArray)(h:Header)(w:World)(hk:key.size≤140737488355200):
 Calls qc 28 #[.string key,h.val] w fun e w'=>e=.returned (.int .i64 (h.verify key.data.toList))∧Below w.heap.size w w':=by
 have a7:=fun w=>check_any h w
 have a6:=fun a b w=>fields_any h a b w
 have aw:=h.fields_size
 obtain⟨r,Y⟩:∃r,r=h.verify key.data.toList:=⟨_,rfl⟩
 rw[←Y]
 simp only[Header.verify]at Y
 have ag:=h.check_cases
 generalize h.check=c at*
 generalize h.fields=fl at*
 obtain⟨id,salt,n,bytes,raw,root,tag⟩:=h
 simp only[Header.val]at*
 have HC:=Lib.hid a7
 have HF:=Lib.hid a6
 clear a7 a6
 go_enter Tryz.func28,Tryz.ntmps28
 go_wp2_with fail
 refine(HC.out _).mono ?_
 rintro e w1 ⟨rfl,O⟩
 have E:=JJ (JH w _) O
 have I:=((Below.refl w.heap.size w).alloc (qd _) (.cells #[.int .i64 id,.string salt,.int .i64 n,.int .i64 bytes,.int .i64 raw,.string root,.string tag] 34 (0,0))).trans (O.mono (by simp))
 have aA:w.heap.size<w1.heap.size:=QP E
 clear O
 rcases ag with rfl|⟨rfl,e1,e2,e3⟩
 ·rw[if_pos rfl]at Y
  subst Y
  have HB:=Lib.hid I
  clear I E
  go_wp2_with fail
  go_ret
  exact⟨rfl,HB.out⟩
 rw[if_neg (by decide)]at Y
 have c0:=Ja E 0
 have c1:=Ja E 1
 have c2:=Ja E 2
 have c3:=Ja E 3
 have c4:=Ja E 4
 have c5:=Ja E 5
 have c6:=Ja E 6
 simp at c0 c1 c2 c3 c4 c5 c6
 have HB:=Lib.hid I
 have HR:=Lib.hid Y
 clear I E Y
 go_wp2_with fail
 have af:=HB.out
 have aa:Jw [fl]=fl.data.toList:=by simp[Jw]
 have hJ:(Jw [fl]).length≤140737488355000:=by rw[aa,Array.length_toList];show fl.size≤_;omega
 go_region_held3 (fun w'=>w'.cell? ⟨w.heap.size,0,none⟩=some (.int .i64 id)∧w'.cell? ⟨w.heap.size,1,none⟩=some (.string salt)∧w'.cell? ⟨w.heap.size,2,none⟩=some (.int .i64 n)∧w'.cell? ⟨w.heap.size,3,none⟩=some (.int .i64 bytes)∧w'.cell? ⟨w.heap.size,4,none⟩=some (.int .i64 raw)∧w'.cell? ⟨w.heap.size,5,none⟩=some (.string root)∧w'.cell? ⟨w.heap.size,6,none⟩=some (.string tag)∧Below w.heap.size w w') (simp[*,World.cell?_alloc_some,World.cell?_setCell_far,Kx,Ug])
  ((first
    |(go_at_call 69;refine(HF.out (by omega) (by omega) _).mono ?_;rintro e w2 ⟨rfl,Z⟩;have ak:=keep_cells Z (World.block_lt_of_cell? _ ⟨w.heap.size,0,none⟩ (u:=.int .i64 id) (by simp[*]));have aj:=keep_below (w:=w) Z (by simp[*,Ug]))
    |(go_at_call 68;refine(tag_any key _ [fl] _ (SliceOf.litS _ _ rfl [fl] 9 1 rfl (by decide) #[.string fl] rfl) (by omega) (by simp[maxLen]) hJ).mono ?_;rintro e w3 ⟨rfl,U⟩;have ah:=keep_cells U (World.block_lt_of_cell? _ ⟨w.heap.size,0,none⟩ (u:=.int .i64 id) (by simp[*,World.cell?_alloc_some]));have ae:=keep_below (w:=w) U (by simp[*,Ug,Kx]))
    |(go_at_call 67;refine(equal_any _ tag _ (by rw[str_size,Sha.tag_length];decide) (by omega)).mono ?_;rintro e w4 ⟨rfl,a2⟩;have ai:=keep_cells a2 (World.block_lt_of_cell? _ ⟨w.heap.size,0,none⟩ (u:=.int .i64 id) (by simp[*,World.cell?_alloc_some]));have ab:=keep_below (w:=w) a2 (by simp[*,Ug,Kx]))))
 have a8:=Lib.hid ab
 clear ak ah ai Z U a2 aj ae ab HB af hJ aa HC HF
 have hR:=HR.out
 clear HR
 have es:(str (Sha.tag key.data.toList fl.data.toList)).data.toList=Sha.tag key.data.toList fl.data.toList:=rfl
 rw[es]
 clear es
 generalize(str (Sha.tag key.data.toList fl.data.toList))=st
 generalize sameB (Sha.tag key.data.toList fl.data.toList) tag.data.toList=b at*
 cases b
 ·rw[if_neg (by decide)]at hR;subst hR
  go_wp2;go_ret;exact⟨rfl,a8.out⟩
 ·rw[if_pos rfl]at hR;subst hR
  go_wp2;go_ret;exact⟨rfl,a8.out⟩
theorem hnum_any(g:Nat)(s:ByteArray)(T:TypeId)(k:Nat)(hk1:1≤k)(hk:k≤6)(hs:k≤s.size)(hsz:s.size≤140737488355327)(w:World)(hg:w.heap[g]?=some (.cells #[.string s] T (0,0))):
 Calls qc 143 #[.int .i64 k,.pointer (some ⟨g,0,none⟩)] w fun e w'=>e=.returned (.int .i64 (Sha.num (s.data.toList.take k):Nat))∧∃w1,Below w.heap.size w w1∧w'=w1.setCell ⟨g,0,none⟩ (.string (s.extract k s.size)):=by
 have c:=Ja hg 0
 simp at c
 have O:=Lib.hid hg
 clear hg
 go_enter Tryz.func143,Tryz.ntmps143
 go_wp2_with fail
 refine(take_any s k hk1 hk hs hsz _).mono ?_
 rintro e w1 ⟨rfl,I⟩
 have E:=JJ O.out I
 have Y:=Ja E 0
 have Z:=Jh E 0
 simp at Y
 have U:=Lib.hid I
 clear E I O c
 go_wp2
 go_ret
 exact⟨rfl,w1,U.out,rfl⟩
theorem htext_any(g:Nat)(s:ByteArray)(T:TypeId)(k:Nat)(hs:k≤s.size)(hsz:s.size≤140737488355327)(w:World)(hg:w.heap[g]?=some (.cells #[.string s] T (0,0))):
 Calls qc 144 #[.int .i64 k,.pointer (some ⟨g,0,none⟩)] w fun e w'=>e=.returned (.string (s.extract 0 k))∧w'=w.setCell ⟨g,0,none⟩ (.string (s.extract k s.size)):=by
 have c:=Ja hg 0
 have z:=Jh hg 0
 simp at c
 have I:=Lib.hid hg
 clear hg
 have O:(k:Int)≤s.size:=by omega
 have E:(0:Int)≤k:=by omega
 go_enter Tryz.func144,Tryz.ntmps144
 go_wp2_with fail
 go_ret
 exact⟨rfl,rfl⟩
def Zn:Array Value:=#[.int .i64 0,.string ⟨#[]⟩,.int .i64 0,.int .i64 0,.int .i64 0,.string ⟨#[]⟩,.string ⟨#[]⟩]
structure TakeAt(w W:World)(cur:ByteArray)(C:Array Value):Prop where
 below:Below w.heap.size w W
 cur:W.heap[w.heap.size]?=some (.cells #[.string cur] 9 (0,0))
 z:W.heap[w.heap.size+1]?=some (.cells Zn 34 (0,0))
 h:W.heap[w.heap.size+1+1]?=some (.cells C 34 (0,0))
theorem TakeAt.after{w W w1:World}{cur:ByteArray}{C:Array Value}(t:TakeAt w W cur C)(hb:Below W.heap.size W w1):TakeAt w w1 cur C:=
 ⟨t.below.trans (hb.mono t.below.size),JJ t.cur hb,JJ t.z hb,JJ t.h hb⟩
theorem TakeAt.put{w W:World}{cur:ByteArray}{C:Array Value}(t:TakeAt w W cur C)(c:ByteArray):TakeAt w (W.setCell ⟨w.heap.size,0,none⟩ (.string c)) c C:=
 ⟨t.below.setCell (qd _) _,heap_setCell t.cur _ _,by rw[JM (by simp)];exact t.z,by rw[JM (by simp;omega)];exact t.h⟩
theorem TakeAt.store{w W:World}{cur:ByteArray}{C:Array Value}(t:TakeAt w W cur C)(k:Nat)(v:Value):TakeAt w (W.setCell ⟨w.heap.size+1+1,k,none⟩ v) cur (C.setIfInBounds k v):=
 ⟨t.below.setCell (by simp;omega) _,by rw[JM (by simp;omega)];exact t.cur,by rw[JM (by simp)];exact t.z,heap_setCell t.h _ _⟩
theorem cut_size(s:ByteArray)(hs:s.size=98)(a:Nat):(s.extract a 98).size=98-a:=by simp;omega
theorem cut_cut(s:ByteArray)(hs:s.size=98)(a k:Nat)(h:a+k≤98):(s.extract a 98).extract k (s.extract a 98).size=s.extract (a+k) 98:=by
 rw[cut_size s hs,ByteArray.extract_extract];congr 1;omega
theorem cut_head(s:ByteArray)(hs:s.size=98)(a k:Nat)(h:a+k≤98):(s.extract a 98).extract 0 k=s.extract a (a+k):=by
 rw[ByteArray.extract_extract];congr 1;omega
def numAt(s:ByteArray)(a k:Nat):Nat:=Sha.num ((s.extract a 98).data.toList.take k)
theorem hnum_at(w W:World)(s:ByteArray)(hs:s.size=98)(a k:Nat)(hk1:1≤k)(hk:k≤6)(ha:a+k≤98)(C:Array Value)(t:TakeAt w W (s.extract a 98) C):
 Calls qc 143 #[.int .i64 k,.pointer (some ⟨w.heap.size,0,none⟩)] W fun e w'=>e=.returned (.int .i64 (numAt s a k:Nat))∧TakeAt w w' (s.extract (a+k) 98) C:=by
 refine(hnum_any w.heap.size (s.extract a 98) _ k hk1 hk (by rw[cut_size s hs];omega) (by rw[cut_size s hs];omega) W t.cur).mono ?_
 rintro e w' ⟨rfl,E,hb,rfl⟩
 rw[cut_cut s hs a k ha]
 exact⟨rfl,(t.after hb).put _⟩
theorem htext_at(w W:World)(s:ByteArray)(hs:s.size=98)(a k:Nat)(ha:a+k≤98)(C:Array Value)(t:TakeAt w W (s.extract a 98) C):
 Calls qc 144 #[.int .i64 k,.pointer (some ⟨w.heap.size,0,none⟩)] W fun e w'=>e=.returned (.string (s.extract a (a+k)))∧TakeAt w w' (s.extract (a+k) 98) C:=by
 refine(htext_any w.heap.size (s.extract a 98) _ k (by rw[cut_size s hs];omega) (by rw[cut_size s hs];omega) W t.cur).mono ?_
 rintro e w' ⟨rfl,rfl⟩
 rw[cut_cut s hs a k ha,cut_head s hs a k ha]
 exact⟨rfl,t.put _⟩
theorem XP{P:Program}{fn:Func}{p t2:Tmp}{ty:TypeId}(h:fn.results=#[.cell p ty,.tmp t2])(tmps:Array Value)(w:World)(g:Nat)(t:TypeId)(cs:Array Value)(fr:Nat×Nat)(d:TypeDesc)
 (hp:tmps.getD p undef=.pointer (some ⟨g,0,none⟩)) (hg:w.heap[g]?=some (.cells cs t fr))
 (hu:P.underlying ty=some d) (hd:(match d with|.struct _|.array _ _=>true|_=>false)=true) (hi:(P.info? ty).map (·.size)=some cs.size):
 (results fn tmps).run P w=.ok (.tuple #[.agg cs,tmps.getD t2 undef]) w:=by
 have E:tmps[p]?.getD undef=.pointer (some ⟨g,0,none⟩):=by simpa using hp
 simp[results,h,E,asAddr,run_loadVar_row w g t ty cs fr d hg hu hd hi]
theorem TakeAt.row{w W:World}{cur:ByteArray}{C:Array Value}(t:TakeAt w W cur C)(v0 v1 v2 v3 v4 v5 v6:Value):
 Below w.heap.size w (((((((W.setCell ⟨w.heap.size+1,0,none⟩ v0).setCell ⟨w.heap.size+1,1,none⟩ v1).setCell ⟨w.heap.size+1,2,none⟩ v2).setCell ⟨w.heap.size+1,3,none⟩ v3).setCell ⟨w.heap.size+1,4,none⟩ v4).setCell ⟨w.heap.size+1,5,none⟩ v5).setCell ⟨w.heap.size+1,6,none⟩ v6)∧
 (((((((W.setCell ⟨w.heap.size+1,0,none⟩ v0).setCell ⟨w.heap.size+1,1,none⟩ v1).setCell ⟨w.heap.size+1,2,none⟩ v2).setCell ⟨w.heap.size+1,3,none⟩ v3).setCell ⟨w.heap.size+1,4,none⟩ v4).setCell ⟨w.heap.size+1,5,none⟩ v5).setCell ⟨w.heap.size+1,6,none⟩ v6).heap[w.heap.size+1]?=some (.cells #[v0,v1,v2,v3,v4,v5,v6] 34 (0,0)):=by
 have hl:w.heap.size≤w.heap.size+1:=Nat.le_succ _
 exact⟨((((((t.below.setCell hl _).setCell hl _).setCell hl _).setCell hl _).setCell hl _).setCell hl _).setCell hl _,
  heap_setCell (heap_setCell (heap_setCell (heap_setCell (heap_setCell (heap_setCell (heap_setCell t.z 0 v0) 1 v1) 2 v2) 3 v3) 4 v4) 5 v5) 6 v6⟩
def Zz(s:ByteArray):Header:=⟨numAt s 4 4,s.extract 8 24,numAt s 24 2,numAt s 26 4,numAt s 30 4,s.extract 34 66,s.extract 66 98⟩
def htakeV(s:ByteArray):Value:=if(Zz s).check=1 then .tuple #[.agg Zn,.int .i64 2]else .tuple #[(Zz s).val,.int .i64 0]
theorem htake_in(s:ByteArray)(hs:s.size=98)(hm:s.extract 0 4=⟨#[83,76,71,49]⟩)(w:World):
 Calls qc 86 #[.string s] w fun e w'=>e=.returned (htakeV s)∧Below w.heap.size w w':=by
 have aY:(s.size:Int)=98:=by omega
 have Y:htakeV s=if(Zz s).check=1 then .tuple #[.agg Zn,.int .i64 2]else .tuple #[(Zz s).val,.int .i64 0]:=rfl
 generalize htakeV s=V at*
 have a7:=Lib.hid Y
 clear Y
 have a6:=fun W=>hnum_at w W s hs
 have a2:=fun W=>htext_at w W s hs
 have Z:=Lib.hid a6
 have O:=Lib.hid a2
 clear a6 a2
 go_enter Tryz.func86,Tryz.ntmps86
 go_wp2_with fail
 refine(Z.out _ 4 4 (by decide) (by decide) (by decide) Zn ?_).mono ?_
 ·refine⟨(((Below.refl w.heap.size w).alloc (qd _) _).alloc (by simp) _).alloc (by simp;omega) _,?_,?_,?_⟩
  ·exact QJ (QJ (JH _ _))
  ·exact QJ (X3 (by simp) _)
  ·exact X3 (by simp) _
 rintro e W1 ⟨rfl,t1⟩
 have c1:=Jh t1.h 0
 have d1:=Ja t1.h 0
 simp[Zn]at d1
 have T1:=Lib.hid t1
 clear t1
 go_wp2_with fail
 refine(O.out _ 8 16 (by decide) _ (T1.out.store 0 _)).mono ?_
 rintro e W2 ⟨rfl,t2⟩
 have z2:=Jh t2.h 1
 have d2:=Ja t2.h 1
 simp[Zn]at d2
 have T2:=Lib.hid t2
 clear t2 T1 c1 d1
 go_wp2_with fail
 refine(Z.out _ 24 2 (by decide) (by decide) (by decide) _ (T2.out.store 1 _)).mono ?_
 rintro e W3 ⟨rfl,t3⟩
 have z3:=Jh t3.h 2
 have d3:=Ja t3.h 2
 simp[Zn]at d3
 have T3:=Lib.hid t3
 clear t3 T2 z2 d2
 go_wp2_with fail
 refine(Z.out _ 26 4 (by decide) (by decide) (by decide) _ (T3.out.store 2 _)).mono ?_
 rintro e W4 ⟨rfl,t4⟩
 have z4:=Jh t4.h 3
 have d4:=Ja t4.h 3
 simp[Zn]at d4
 have T4:=Lib.hid t4
 clear t4 T3 z3 d3
 go_wp2_with fail
 refine(Z.out _ 30 4 (by decide) (by decide) (by decide) _ (T4.out.store 3 _)).mono ?_
 rintro e W5 ⟨rfl,t5⟩
 have z5:=Jh t5.h 4
 have d5:=Ja t5.h 4
 simp[Zn]at d5
 have T5:=Lib.hid t5
 clear t5 T4 z4 d4
 go_wp2_with fail
 refine(O.out _ 34 32 (by decide) _ (T5.out.store 4 _)).mono ?_
 rintro e W6 ⟨rfl,t6⟩
 have z6:=Jh t6.h 5
 have d6:=Ja t6.h 5
 simp[Zn]at d6
 have T6:=Lib.hid t6
 clear t6 T5 z5 d5
 go_wp2_with fail
 refine(O.out _ 66 32 (by decide) _ (T6.out.store 5 _)).mono ?_
 rintro e W7 ⟨rfl,U⟩
 have z7:=Jh U.h 6
 have y0:=Ja U.h 0
 have y1:=Ja U.h 1
 have y2:=Ja U.h 2
 have y3:=Ja U.h 3
 have y4:=Ja U.h 4
 have y5:=Ja U.h 5
 have y6:=Ja U.h 6
 simp[Zn]at y0 y1 y2 y3 y4 y5 y6
 have T7:=Lib.hid U
 clear U T6 z6 d6
 go_wp2_with fail
 have T8:=Lib.hid (T7.out.store 6 (.string (s.extract 66 98)))
 clear T7
 refine(check_any (Zz s) _).mono ?_
 rintro e W8 ⟨rfl,a8⟩
 have T9:=Lib.hid (T8.out.after a8)
 have E:=T9.out.z
 have q0:=Ja E 0
 have q1:=Ja E 1
 have q2:=Ja E 2
 have q3:=Ja E 3
 have q4:=Ja E 4
 have q5:=Ja E 5
 have q6:=Ja E 6
 have f0:=Jh E 0
 have f1:=Jh E 1
 have f2:=Jh E 2
 have f3:=Jh E 3
 have f4:=Jh E 4
 have f5:=Jh E 5
 have f6:=Jh E 6
 have I:=T9.out.h
 have x0:=Ja I 0
 have x1:=Ja I 1
 have x2:=Ja I 2
 have x3:=Ja I 3
 have x4:=Ja I 4
 have x5:=Ja I 5
 have x6:=Ja I 6
 simp[Zn]at q0 q1 q2 q3 q4 q5 q6 x0 x1 x2 x3 x4 x5 x6
 clear a8 T8 y0 y1 y2 y3 y4 y5 y6 z7 E I
 have Y:=a7.out
 clear a7
 have ah:=(Zz s).check_cases
 generalize hc0:(Zz s).check=c0 at*
 rcases ah with rfl|⟨rfl, -⟩
 ·rw[if_pos rfl]at Y
  have HV:=Lib.hid Y
  clear Y hc0
  go_wp2_with fail
  have R:=T9.out.row (.int .i64 0) (.string ⟨#[]⟩) (.int .i64 0) (.int .i64 0) (.int .i64 0) (.string ⟨#[]⟩) (.string ⟨#[]⟩)
  refine bodyPost_ret (v:=.tuple #[.agg Zn,.int .i64 2]) ?r ?d ?fin
  case fin=>exact⟨by rw[HV.out],R.1⟩
  case d=>rfl
  case r=>exact XP qh _ _ (w.heap.size+1) _ _ (0,0) _ rfl R.2 qf rfl (by kernel_rfl)
 ·rw[if_neg (by decide)]at Y
  have HV:=Lib.hid Y
  clear Y hc0
  go_wp2_with fail
  have R:=T9.out.row (.int .i64 (numAt s 4 4)) (.string (s.extract 8 24)) (.int .i64 (numAt s 24 2)) (.int .i64 (numAt s 26 4)) (.int .i64 (numAt s 30 4)) (.string (s.extract 34 66)) (.string (s.extract 66 98))
  refine bodyPost_ret (v:=.tuple #[(Zz s).val,.int .i64 0]) ?r ?d ?fin
  case fin=>exact⟨by rw[HV.out],R.1⟩
  case d=>rfl
  case r=>exact XP qh _ _ (w.heap.size+1) _ _ (0,0) _ rfl R.2 qf rfl (by kernel_rfl)
theorem htake_short(s:ByteArray)(hs:¬s.size=98)(w:World):
 Calls qc 86 #[.string s] w fun e w'=>e=.returned (.tuple #[.agg Zn,.int .i64 2])∧Below w.heap.size w w':=by
 have E:¬(s.size:Int)=98:=by omega
 go_enter Tryz.func86,Tryz.ntmps86
 go_wp2_with fail
 refine bodyPost_ret (v:=.tuple #[.agg Zn,.int .i64 2]) ?r ?d ?fin
 case fin=>exact⟨rfl,((Below.refl w.heap.size w).alloc (qd _) _).alloc (by simp) _⟩
 case d=>rfl
 case r=>exact XP qh _ _ (w.heap.size+1) _ _ (0,0) _ rfl (X3 (by simp) _) qf rfl (by kernel_rfl)
theorem htake_mark(s:ByteArray)(hs:s.size=98)(hm:¬s.extract 0 4=⟨#[83,76,71,49]⟩)(w:World):
 Calls qc 86 #[.string s] w fun e w'=>e=.returned (.tuple #[.agg Zn,.int .i64 2])∧Below w.heap.size w w':=by
 have E:(s.size:Int)=98:=by omega
 have I:((s.extract 0 4).toList==[83,76,71,49])=false:=by
  rw[beq_eq_false_iff_ne]
  intro h
  refine hm (ByteArray.ext (Array.ext' ?_))
  rw[←ByteArray.toList_eq,h]
 go_enter Tryz.func86,Tryz.ntmps86
 go_wp2_with fail
 refine bodyPost_ret (v:=.tuple #[.agg Zn,.int .i64 2]) ?r ?d ?fin
 case fin=>exact⟨rfl,((Below.refl w.heap.size w).alloc (qd _) _).alloc (by simp) _⟩
 case d=>rfl
 case r=>exact XP qh _ _ (w.heap.size+1) _ _ (0,0) _ rfl (X3 (by simp) _) qf rfl (by kernel_rfl)
def htakeAny(s:ByteArray):Value:=
 if s.size=98 then if s.extract 0 4=⟨#[83,76,71,49]⟩then htakeV s else .tuple #[.agg Zn,.int .i64 2]else .tuple #[.agg Zn,.int .i64 2]
theorem htake_any(s:ByteArray)(w:World):
 Calls qc 86 #[.string s] w fun e w'=>e=.returned (htakeAny s)∧Below w.heap.size w w':=by
 unfold htakeAny
 by_cases h1:s.size=98
 ·rw[if_pos h1]
  by_cases h2:s.extract 0 4=⟨#[83,76,71,49]⟩
  ·rw[if_pos h2];exact htake_in s h1 h2 w
  ·rw[if_neg h2];exact htake_mark s h1 h2 w
 ·rw[if_neg h1];exact htake_short s h1 w
theorem fixed_front(n:Int):∀k:Nat,Sha.fixed n (k+1)=qe (n/256^k%256).toNat::Sha.fixed n k:=by
 intro k
 induction k generalizing n with
 |zero=>simp[Sha.fixed]
 |succ k ih=>
  rw[Sha.fixed,ih (n/256),Sha.fixed]
  rw[show n/256/256^k=n/256^(k+1) by rw[Int.ediv_ediv_of_nonneg (by decide),Int.pow_succ,Int.mul_comm]]
  rfl
theorem one_byte(b:UInt8)(w:World):
 Calls qc 243 #[.int .i64 b.toNat] w fun e w'=>e=.returned (.string (str [b]))∧Below w.heap.size w w':=by
 have hl:=b.toNat_lt
 have U:(0:Int)≤b.toNat:=by omega
 have Y:(b.toNat:Int)<256:=by omega
 obtain⟨V,I⟩:∃V,V=str [b]:=⟨_,rfl⟩
 rw[←I]
 have E:=run_convert_bytes_back (P:=qc) (w.alloc (.cells #[.int .u8 b.toNat] 5 (0,0))) 172 9 5 ⟨w.heap.size,0,none⟩ 1 [b] Tryz.underlying172 Tryz.underlying5 Tryz.underlying9 (fun j hj=>by
  have:j=0:=by simp at hj;omega
  subst this
  rw[show(⟨w.heap.size,0,none⟩:Addr).add 0=⟨w.heap.size,0,none⟩from rfl,Ja (JH _ _)]
  simp[JB])
 rw[show(⟨[b].toArray⟩:ByteArray)=V from I.symm]at E
 simp only[List.length_singleton]at E
 have Z:=Lib.hid I
 clear I
 have hB:=Lib.hid ((Below.refl w.heap.size w).alloc (qd _) (.cells #[.int .u8 b.toNat] 5 (0,0)))
 generalize b.toNat=m at*
 have O:=Lib.hid E
 clear E
 go_enter Tryz.func243,Tryz.ntmps243
 go_wp2_with fail
 rw[O.out]
 go_wp2_with fail
 go_ret
 exact⟨rfl,hB.out⟩
theorem one_any(n:Nat)(hn:n<256)(w:World):
 Calls qc 243 #[.int .i64 n] w fun e w'=>e=.returned (.string (str [qe n]))∧Below w.heap.size w w':=by
 have:=one_byte (qe n) w
 rw[show(qe n).toNat=n by simp;omega]at this
 exact this
theorem bits_low(n:Nat)(hn:n<4611686018427387904):bits .and .i64 (n:Int) 255=((n%256:Nat):Int):=by
 have:=QA n 255 (by omega) (by omega)
 rw[show n&&&255=n%256 from Nat.and_two_pow_sub_one_eq_mod n 8]at this
 exact this
theorem bytes_any(n k:Nat)(hn:n<4611686018427387904)(hk:k≤8)(w:World):
 Calls qc 209 #[.int .i64 n,.int .i64 k] w fun e w'=>e=.returned (.string (str (Sha.fixed n k)))∧Below w.heap.size w w':=by
 go_enter Tryz.func209,Tryz.ntmps209
 go_wp2_with fail
 go_loopw [0,5,6] (fun u0 v i wr=>∃t:Nat,t≤k∧i=.int .i64 t∧u0=.int .i64 (n/256^t:Nat)∧v=.string (str (Sha.fixed n t))∧Below w.heap.size w wr) (fun _ _ i _=>k-(intOf i).toNat)
 case atStart=>exact⟨0,Nat.zero_le _,rfl,by simp,rfl,Below.refl _ _⟩
 case round=>
  obtain⟨t,ht,rfl,rfl,rfl,hb⟩:=hrel
  have O:=Lib.hid hb
  clear hb
  by_cases hlt:t<k
  ·have a2:(t:Int)<k:=by omega
   have hm:=Nat.div_le_self n (256^t)
   have E:Hid (n/256^t/256=n/256^(t+1)):=Lib.hid (by rw[Nat.div_div_eq_div_mul,Nat.pow_succ])
   have U:Hid (str [qe (n/256^t%256)]++str (Sha.fixed n t)=str (Sha.fixed n (t+1))):=Lib.hid (by
    rw[fixed_front]
    rw[show((n:Int)/256^t%256).toNat=n/256^t%256 by
     have:((n:Int)/256^t%256)=((n/256^t%256:Nat):Int):=by push_cast;rfl
     rw[this,Int.toNat_natCast]]
    rfl)
   have q:(str (Sha.fixed n t)).size=t:=by rw[str_size,Sha.fixed_length]
   generalize n/256^t=m at*
   have Z:=bits_low m (by omega)
   have a7:(0:Int)≤m:=by omega
   generalize str (Sha.fixed n t)=b at*
   go_wp2_with fail
   refine(one_any (m%256) (by omega) _).mono ?_
   rintro e w1 ⟨rfl,I⟩
   have Y:=Lib.hid (O.out.trans (I.mono O.out.size))
   have qa:(str [qe (m%256)]).size=1:=rfl
   clear I O Z
   generalize str [qe (m%256)]=a at*
   have qs:¬9223372036854775807<1+t:=by omega
   go_wp2_with fail
   go_roundw
   case rel=>exact⟨t+1,by omega,by go_num,by rw[←E.out];simp,by rw[←U.out],Y.out⟩
   case measure=>simp[intOf];omega
  ·have et:t=k:=by omega
   subst et
   go_wp2_with fail
   go_ret
   exact⟨rfl,O.out⟩
theorem rfixed_any(n k:Nat)(hn:n<4611686018427387904)(hk:k≤8)(w:World):
 Calls qc 165 #[.int .i64 n,.int .i64 k] w fun e w'=>e=.returned (.string (str (Sha.fixed n k)))∧Below w.heap.size w w':=by
 have Y:¬(k:Int)<0:=by omega
 have U:¬(8:Int)<k:=by omega
 go_enter Tryz.func165,Tryz.ntmps165
 go_wp2_with fail
 refine(bytes_any n k hn hk _).mono ?_
 rintro e O ⟨rfl,E⟩
 have I:=Lib.hid E
 clear E
 go_wp2_with fail
 go_ret
 exact⟨rfl,I.out⟩
end Go.Proofs.YthohbneadomgdaaGreatDoor
