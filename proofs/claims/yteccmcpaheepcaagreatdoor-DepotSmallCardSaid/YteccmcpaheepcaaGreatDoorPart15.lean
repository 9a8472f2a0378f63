/-
  One archive, in plain words: begun, kept, opened again.
-/
import Derived.Test.YteccmcpaheepcaaGreatDoorPart14
import Derived.Test.YteccmcpaheepcaaGreatDoorPart10
import Derived.Test.YteccmcpaheepcaaGreatDoorPart03
import Derived.Test.YteccmcpaheepcaaGreatDoorPart13
import Derived.Test.YteccmcpaheepcaaGreatDoorPart09
import Derived.Test.YteccmcpaheepcaaGreatDoorPart01
import Derived.Lib.FrozenHead2
import Derived.Laws.IdiomStrings
import Derived.Test.YteccmcpaheepcaaGreatDoorPart02
import Derived.Deep.QuietTactic
import Derived.BigQuiet
set_option linter.unusedSimpArgs false
set_option linter.unusedVariables false
set_option linter.unusedSectionVars false
set_option linter.unnecessarySimpa false
set_option linter.defProp false
set_option maxRecDepth 100000
set_option maxHeartbeats 16000000
open Nat renaming reduceLT → yQ, reduceEqDiff → yK, reduceAdd → yV, reduceSub → yY, reduceMul → yU
open Int renaming reduceToNat → yW, reduceLE → yX, reduceEq → yZ, reduceLT → yJ
open Go.Proofs.Tryz renaming prog → qc, underlying31 → qh
open List renaming getElem?_eq_getElem → qd, replicate → qf, getElem?_replicate → qj, length_map → qk
open Int renaming toNat_natCast → qe
open Nat renaming le_refl → qi
namespace Go.Proofs.YteccmcpaheepcaaGreatDoor
open Go.RowKit Abs
def Clean(d:Dsk):Prop:=∀i s,d.poss i s→s=d.sector i
def Xq(a:Arc):List Bool:=qf a.head.n.toNat false
section
variable {key : List UInt8} {a : Arc} {ep st : Int} {G : List Bool}
theorem sure_falses(d:Dsk)(n:Nat):Sure a d (qf n false):=fun k b hk _=>by
 rw[qj]at hk
 split at hk<;>cases hk
theorem falses_len(hk:ArcOk key a):((Xq a).length:Int)=a.head.n:=by
 have:=Uc hk.may
 unfold Xq
 rw[List.length_replicate];omega
theorem begin_fresh(hk:ArcOk key a)(hl:a.blocks.length≤6){d:Dsk}(hn:20≤d.old.length)(hd:d.dead=false):Dep.begin d (Dp0 key ep st) a.head=Dep.begun d (Dp0 key ep st) a.head 0 13:=by
 have h1:=Uc hk.may
 have h2:=hk.len
 unfold Dep.begin
 rw[if_neg (by rw[hd];decide),if_neg (by show¬a.head.verify key≠0;simp[hk.ver]),d0_head,if_neg (by simp),d0_places]
 have:QP (Dp0 key ep st).opn 0=some 0:=rfl
 rw[this]
 show(match roomV 13 (d.old.length:Int) a.head.n []with|none=>_|some base=>_)=_
 rw[room_first _ a.head.n (by omega) (by omega) (by omega)]
theorem sess_begin{e:Nat}{d:Dsk}{P:List Bool→Prop}(hk:ArcOk key a)(hl:a.blocks.length≤6)(h:Hist a d e P)(hc:Clean d)(h1:Qd (d.sector 1)=[])(h5:Qd (d.sector 5)=[])(hd:d.dead=false):
 (Dep.begin d (Dp0 key ep st) a.head).2.2=0∧(Dep.begin d (Dp0 key ep st) a.head).2.1=ZW key a ep st (Xq a)∧Sess a e (Dep.begin d (Dp0 key ep st) a.head).1 (Xq a) (Xq a)∧(Dep.begin d (Dp0 key ep st) a.head).1.dead=false∧(d.live→(Dep.begin d (Dp0 key ep st) a.head).1.live)
 ∨¬d.live∧(Dep.begin d (Dp0 key ep st) a.head).2.2=7∧(Dep.begin d (Dp0 key ep st) a.head).2.1=Dp0 key ep st∧Hist a (Dep.begin d (Dp0 key ep st) a.head).1 e (fun X=>X=Xq a)∧(Dep.begin d (Dp0 key ep st) a.head).1.dead=true:=by
 have hn40:=h.n
 have hm:=ext_may hk hl
 rw[begin_fresh hk hl hn40 hd]
 obtain⟨W,hW⟩:∃W,W=d.write ((1+0:Nat):Int) (Zg a (Xq a)):=⟨_,rfl⟩
 obtain⟨Y,hY⟩:∃Y,Y=W.1.sync:=⟨_,rfl⟩
 have hrest:Dep.begun d (Dp0 key ep st) a.head 0 13=(if W.2≠0 then(W.1,Dp0 key ep st,W.2)else if Y.2≠0 then(Y.1,Dp0 key ep st,Y.2)else(Y.1,ZW key a ep st (Xq a),0)):=by
  rw[hY,hW];rfl
 obtain⟨Z,hZ⟩:∃Z,Z=Dep.begun d (Dp0 key ep st) a.head 0 13:=⟨_,rfl⟩
 rw[←hZ]at hrest ⊢
 have hi:1+0<d.old.length:=by omega
 have hx:(Zg a (Xq a)).length≤256:=by unfold Zg;rw[jouText_len hm];decide
 have hist0:Hist a d e (fun X=>X=Xq a):=⟨h.ok,h.n,h.s0,h.free,fun s hs=>.inl (by rw[hc 1 s hs];exact h1),fun s hs=>.inl (by rw[hc 5 s hs];exact h5)⟩
 have hist1:Hist a W.1 e (fun X=>X=Xq a):=by rw[hW];exact hist0.record hx (.inr ⟨Xq a,falses_len hk,rfl,rfl,sure_falses _ _⟩)
 have hWn:0<W.1.old.length:=by have:=hist1.n;omega
 have wp:∀i t,W.1.poss i t→d.poss i t∨(i=1+0∧t=JB (Zg a (Xq a))):=fun i t ht=>by rw[hW]at ht;exact Dsk.write_poss hi hx ht
 by_cases w0:W.2=0
 ·rw[if_neg (by simp[w0])]at hrest
  have wa:=Dsk.write_alive hi hx (by rw[←hW];exact w0)
  rw[←hW]at wa
  have ws:W.1.sector 1=JB (Zg a (Xq a)):=by rw[hW];exact write_new hi hx (by rw[←hW];exact w0)
  have hist2:Hist a Y.1 e (fun X=>X=Xq a):=by rw[hY];exact hist1.sync
  by_cases y0:Y.2=0
  ·left
   rw[if_neg (by simp[y0])]at hrest
   have ya:=sync_alive hWn (by rw[←hY];exact y0)
   rw[←hY]at ya
   rw[hrest]
   refine⟨rfl,rfl,⟨hist2.weaken (qi _) fun X hX=>.inl hX,falses_len hk,?_,sure_falses _ _,?_,?_⟩,ya.2,fun hlv=>?_⟩
   ·show Y.1.sector 1=_
    rw[hY,Dsk.sync_sector hWn (by have:=hist1.n;omega),ws]
   ·intro s hs
    have hs:Y.1.poss 1 s:=hs
    rw[hY]at hs
    right
    rw[Dsk.sync_done hWn (by rw[←hY];exact y0) hs,ws]
   ·intro s hs
    have hs:Y.1.poss 5 s:=hs
    rw[hY]at hs
    rcases wp 5 s (Dsk.sync_poss hWn hs)with q|⟨q,_⟩
    ·rw[hc 5 s q];exact h5
    ·omega
   ·show Y.1.live
    rw[hY]
    refine(Dsk.sync_live hWn ?_).2
    rw[hW]
    exact(Dsk.write_live hi hx hlv).2
  ·right
   rw[if_pos y0]at hrest
   have yb:=sync_bad hWn wa.2 (by rw[←hY];exact y0)
   rw[←hY]at yb
   rw[hrest]
   refine⟨fun hlv=>?_,yb.1,rfl,hist2,yb.2.1⟩
   apply y0
   rw[hY]
   refine(Dsk.sync_live hWn ?_).1
   rw[hW]
   exact(Dsk.write_live hi hx hlv).2
 ·right
  rw[if_pos w0]at hrest
  have wb:=U3 hi hx hd (by rw[←hW];exact w0)
  rw[←hW]at wb
  rw[hrest]
  refine⟨fun hlv=>?_,wb.1,rfl,hist1,wb.2.1⟩
  apply w0
  rw[hW]
  exact(Dsk.write_live hi hx hlv).1
theorem take_filled{b:List UInt8}(hb:b.length=224):(JB b).take 224=b:=by unfold JB;rw[←hb,List.take_left]
theorem blocks_sure(hk:ArcOk key a)(hl:a.blocks.length≤6){d:Dsk}(hn:20≤d.old.length)(hd:d.dead=false)(h:Sure a d (qf a.blocks.length true)):Qp d a.ext=(a.blocks,0):=by
 have h2:=hk.len
 have hnn:a.ext.head.n.toNat=a.blocks.length:=by show a.head.n.toNat=_;omega
 unfold Qp
 rw[if_neg (by rw[hd];simp),hnn]
 congr 1
 apply List.ext_getElem?
 intro i
 rw[List.getElem?_map]
 by_cases hi:i<a.blocks.length
 ·have hb:a.blocks[i]?=some (a.blocks[i]):=qd hi
  rw[List.getElem?_range hi,hb,Option.map_some]
  congr 1
  have:=h i (a.blocks[i]) (by rw[qj,if_pos hi]) hb (d.sector (13+i)) (Dsk.poss_sector (by omega))
  show(d.sector (13+i)).take 224=_
  rw[this,take_filled (hk.size _ (List.getElem_mem hi))]
 ·rw[List.getElem?_eq_none (by simp;omega),List.getElem?_eq_none (by omega)]
  rfl
theorem free_d1:QP (ZW key a ep st G).kept 0=some 0:=rfl
theorem sess_commit{e:Nat}{d:Dsk}{Gp:List Bool}(hk:ArcOk key a)(hl:a.blocks.length≤6)(hG:G=qf a.blocks.length true)(h:Sess a e d Gp G)(hd:d.dead=false):
 (Dep.commit d (ZW key a ep st G) a.head.id).2.2=0∧(Dep.commit d (ZW key a ep st G) a.head.id).2.1=Dp2 key a ep st∧Hist a (Dep.commit d (ZW key a ep st G) a.head.id).1 e (fun _=>True)∧(∀s,(Dep.commit d (ZW key a ep st G) a.head.id).1.poss 5 s→s=JB (Q6 a.ext))∧
  Sure a (Dep.commit d (ZW key a ep st G) a.head.id).1 (qf a.blocks.length true)∧(Dep.commit d (ZW key a ep st G) a.head.id).1.dead=false∧(d.live→(Dep.commit d (ZW key a ep st G) a.head.id).1.live)
 ∨¬d.live∧(Dep.commit d (ZW key a ep st G) a.head.id).2.2=7∧Hist a (Dep.commit d (ZW key a ep st G) a.head.id).1 e (fun _=>True):=by
 have hn40:=h.hist.n
 have hm:=ext_may hk hl
 have hsure:=h.sure
 rw[hG]at hsure
 obtain⟨W,hW⟩:∃W,W=d.write ((5+0:Nat):Int) (Q6 a.ext):=⟨_,rfl⟩
 obtain⟨Y,hY⟩:∃Y,Y=W.1.sync:=⟨_,rfl⟩
 obtain⟨U,hU⟩:∃U,U=Y.1.write ((1+0:Nat):Int) []:=⟨_,rfl⟩
 have hrest:Dep.commit d (ZW key a ep st G) a.head.id=(if W.2≠0 then(W.1,ZW key a ep st G,W.2)else if Y.2≠0 then(Y.1,ZW key a ep st G,Y.2)else(U.1,Dp2 key a ep st,U.2)):=by
  unfold Dep.commit
  rw[if_neg (by rw[hd];decide),d1_ext,d1_rec]
  simp only
  rw[if_neg (by rw[hG];simp),blocks_sure hk hl hn40 hd hsure]
  simp only
  rw[if_neg (by show¬str (rootV a.blocks)≠a.head.root;rw[hk.root];simp),free_d1]
  simp only
  have hkeep:Dep.keep d (ZW key a ep st G) 0 a.ext=(if W.2≠0 then(W.1,ZW key a ep st G,W.2)else if Y.2≠0 then(Y.1,ZW key a ep st G,Y.2)else(Y.1,{ ZW key a ep st G with kept:=(ZW key a ep st G).kept.set 0 (some a.ext) },0)):=by rw[hY,hW];rfl
  rw[hkeep]
  by_cases w0:W.2=0
  ·by_cases y0:Y.2=0
   ·simp only[w0,y0,ne_eq,not_true_eq_false,if_false]
    rw[hU]
    rfl
   ·simp only[w0,y0,ne_eq,not_true_eq_false,not_false_eq_true,if_false,if_true]
  ·simp only[w0,ne_eq,not_false_eq_true,if_true]
 obtain⟨Z,hZ⟩:∃Z,Z=Dep.commit d (ZW key a ep st G) a.head.id:=⟨_,rfl⟩
 rw[←hZ]at hrest ⊢
 have hi:5+0<d.old.length:=by omega
 have hx:(Q6 a.ext).length≤256:=by rw[catText_len hm];decide
 have hist0:Hist a d e (fun _=>True):=h.hist.weaken (qi _) fun _ _=>trivial
 have hist1:Hist a W.1 e (fun _=>True):=by rw[hW];exact hist0.cat hx hsure
 have hWn:0<W.1.old.length:=by have:=hist1.n;omega
 have wp:∀i t,W.1.poss i t→d.poss i t∨(i=5+0∧t=JB (Q6 a.ext)):=fun i t ht=>by rw[hW]at ht;exact Dsk.write_poss hi hx ht
 by_cases w0:W.2=0
 ·rw[if_neg (by simp[w0])]at hrest
  have wa:=Dsk.write_alive hi hx (by rw[←hW];exact w0)
  rw[←hW]at wa
  have ws:W.1.sector 5=JB (Q6 a.ext):=by rw[hW];exact write_new hi hx (by rw[←hW];exact w0)
  have hist2:Hist a Y.1 e (fun _=>True):=by rw[hY];exact hist1.sync
  by_cases y0:Y.2=0
  ·rw[if_neg (by simp[y0])]at hrest
   have ya:=sync_alive hWn (by rw[←hY];exact y0)
   rw[←hY]at ya
   have y5:∀s,Y.1.poss 5 s→s=JB (Q6 a.ext):=fun s hs=>by
    rw[hY]at hs
    rw[Dsk.sync_done hWn (by rw[←hY];exact y0) hs,ws]
   have hi1:1+0<Y.1.old.length:=by have:=hist2.n;omega
   have hx1:([]:List UInt8).length≤256:=by decide
   have up:∀i t,U.1.poss i t→Y.1.poss i t∨(i=1+0∧t=JB []):=fun i t ht=>by rw[hU]at ht;exact Dsk.write_poss hi1 hx1 ht
   have hist3:Hist a U.1 e (fun _=>True):=by rw[hU];exact hist2.record hx1 (.inl rfl)
   have sureY:Sure a Y.1 (qf a.blocks.length true):=by
    rw[hY]
    refine(hsure.less (d':=W.1) fun i t hi ht=>?_).less fun i t hi ht=>.inl (Dsk.sync_poss hWn ht)
    rcases wp i t ht with q|⟨q,_⟩
    ·exact .inl q
    ·omega
   by_cases u0:U.2=0
   ·left
    have ua:=Dsk.write_alive hi1 hx1 (by rw[←hU];exact u0)
    rw[←hU]at ua
    rw[hrest]
    refine⟨u0,rfl,hist3,fun s hs=>?_,?_,ua.2,fun hlv=>?_⟩
    ·rcases up 5 s hs with q|⟨q,_⟩
     ·exact y5 s q
     ·omega
    ·refine sureY.less fun i t hi ht=>?_
     rcases up i t ht with q|⟨q,_⟩
     ·exact .inl q
     ·omega
    ·show U.1.live
     rw[hU]
     refine(Dsk.write_live hi1 hx1 ?_).2
     rw[hY]
     refine(Dsk.sync_live hWn ?_).2
     rw[hW]
     exact(Dsk.write_live hi hx hlv).2
   ·right
    have ub:=U3 hi1 hx1 ya.2 (by rw[←hU];exact u0)
    rw[←hU]at ub
    rw[hrest]
    refine⟨fun hlv=>?_,ub.1,hist3⟩
    apply u0
    rw[hU]
    refine(Dsk.write_live hi1 hx1 ?_).1
    rw[hY]
    refine(Dsk.sync_live hWn ?_).2
    rw[hW]
    exact(Dsk.write_live hi hx hlv).2
  ·right
   rw[if_pos y0]at hrest
   have yb:=sync_bad hWn wa.2 (by rw[←hY];exact y0)
   rw[←hY]at yb
   rw[hrest]
   refine⟨fun hlv=>?_,yb.1,hist2⟩
   apply y0
   rw[hY]
   refine(Dsk.sync_live hWn ?_).1
   rw[hW]
   exact(Dsk.write_live hi hx hlv).2
 ·right
  rw[if_pos w0]at hrest
  have wb:=U3 hi hx hd (by rw[←hW];exact w0)
  rw[←hW]at wb
  rw[hrest]
  refine⟨fun hlv=>?_,wb.1,hist1⟩
  apply w0
  rw[hW]
  exact(Dsk.write_live hi hx hlv).1
end
section
variable {key : List UInt8} {a : Arc}
theorem hist_new(N:Nat)(hN:20≤N)(hN2:N≤1024)(a:Arc)(P:List Bool→Prop):Hist a (JT N) 1 P∧Clean (JT N)∧(JT N).live∧Qd ((JT N).sector 1)=[]∧Qd ((JT N).sector 5)=[]:=by
 have hp:∀i s,(JT N).poss i s→(i=0∧s=JB (Q1 1))∨(1≤i∧i<N∧s=ZG):=fun i s h=>by
  rcases h with h|h
  ·cases i with
   |zero=>left;exact⟨rfl,(Option.some.inj h).symm⟩
   |succ i=>
    have h:(qf (N-1) ZG)[i]?=some s:=h
    rw[qj]at h
    split at h
    ·right;exact⟨by omega,by omega,(Option.some.inj h).symm⟩
    ·cases h
  ·simp[JT,JL]at h
 have hsec:∀i,1≤i→i<N→(JT N).sector i=ZG:=fun i h1 h2=>by
  obtain⟨k,rfl⟩:∃k,i=k+1:=⟨i-1,by omega⟩
  unfold Dsk.sector JT
  simp only[JL,List.find?_nil,Option.map_none,Option.getD_none,List.getElem?_cons_succ,qj]
  rw[if_pos (by omega)]
  rfl
 have hok:(JT N).Ok:=by
  have hf:(JB (Q1 1)).length=256:=by decide+kernel
  refine⟨by simp[JT];omega,by simp[JT],fun s hs=>?_,by simp[JT],by simp[JT],by simp[JT],by simp[JT],⟨by show(-1:Int)≤ -1;decide,by show(-1:Int)≤_;decide⟩,trivial⟩
  unfold JT at hs
  simp only[List.mem_cons,List.mem_replicate]at hs
  rcases hs with rfl|⟨_,rfl⟩
  ·exact hf
  ·exact List.length_replicate
 refine⟨⟨hok,by simp[JT];omega,fun s h=>?_,fun i hi s h=>?_,fun s h=>.inl ?_,fun s h=>.inl ?_⟩,fun i s h=>?_,⟨rfl,rfl⟩,?_,?_⟩
 ·rcases hp 0 s h with⟨_,rfl⟩|⟨q,_⟩
  ·exact⟨1,by decide,by decide,rfl⟩
  ·omega
 ·rcases hp i s h with⟨q,_⟩|⟨_,_,rfl⟩
  ·omega
  ·exact XM
 ·rcases hp 1 s h with⟨q,_⟩|⟨_,_,rfl⟩
  ·omega
  ·exact XM
 ·rcases hp 5 s h with⟨q,_⟩|⟨_,_,rfl⟩
  ·omega
  ·exact XM
 ·rcases hp i s h with⟨rfl,rfl⟩|⟨q1,q2,rfl⟩
  ·rfl
  ·rw[hsec i q1 q2]
 ·rw[hsec 1 (by decide) (by omega)];exact XM
 ·rw[hsec 5 (by decide) (by omega)];exact XM
end
theorem UK{α:Type}:∀(l:List (Option α))(i:Nat),(QP l i=none∧∀(j:Nat),l[j]?≠some none)∨∃(j:Nat),QP l i=some (i+j)∧l[j]?=some none∧∀(k:Nat),k<j→l[k]?≠some none
 | [],i=>.inl ⟨rfl,fun j h=>by simp at h⟩
 |none::r,i=>.inr ⟨0,rfl,rfl,fun k hk=>by omega⟩
 |some a::r,i=>by
  unfold QP
  rcases UK r (i+1)with⟨h1,h2⟩|⟨j,h1,h2,h4⟩
  ·refine .inl ⟨h1,fun j hj=>?_⟩
   cases j with
   |zero=>simp at hj
   |succ j=>exact h2 j (by simpa using hj)
  ·refine .inr ⟨j+1,by rw[h1];congr 1;omega,by simpa using h2,fun k hk hc=>?_⟩
   cases k with
   |zero=>simp at hc
   |succ k=>exact h4 k (by omega) (by simpa using hc)
theorem freeAt_is{α:Type}{l:List (Option α)}{j:Nat}(h1:l[j]?=some none)(h3:∀(k:Nat),k<j→l[k]?≠some none):QP l 0=some j:=by
 rcases UK l 0 with⟨_,h⟩|⟨j',e,h4,h6⟩
 ·exact absurd h1 (h j)
 ·rcases Nat.lt_trichotomy j j' with hl|hl|hl
  ·exact absurd h1 (h6 j hl)
  ·subst hl;rw[e,Nat.zero_add]
  ·exact absurd h4 (h3 j' hl)
theorem freeAt_not{α:Type}{l:List (Option α)}(h3:∀(k:Nat),l[k]?≠some none):QP l 0=none:=by
 rcases UK l 0 with⟨h,_⟩|⟨j',e,h4,_⟩
 ·exact h
 ·exact absurd h4 (h3 j')
theorem free_rec{l:List (Option Rec)}{j:Nat}(h1:l[j]?=some none)(h3:∀(k:Nat) o,k<j→l[k]?=some o→o.isNone=false):freeI (QP l 0)=(j:Int):=by
 rw[freeAt_is h1 fun k hk hb=>by have:=h3 k none hk hb;cases this];rfl
theorem nofree_rec{l:List (Option Rec)}(h3:∀(k:Nat) o,l[k]?=some o→o.isNone=false):freeI (QP l 0)= -1:=by
 rw[freeAt_not fun k hb=>by have:=h3 k none hb;cases this];rfl
theorem freerec_spec(P off s0 c:Nat)(K:List Nat)(M:Mem)(C:List Value)(vs:List Value)(l:List (Option Rec))(hC:M.get P=some (.cells false s0 C))(hvs:∀(i:Nat) v,vs[i]?=some v→C[off+i]?=some v)(h:PtrsAt Rec.cells K M l vs)(hl:l.length≤1000):
 Abs.Spec qc 57 [.slice (some ⟨P,off,none⟩) l.length c,.pointer none] M fun u M'=>u=.int .i64 (freeI (QP l 0))∧M'=M:=by
 refine VE Tryz.func57 Tryz.results57 Tryz.ntmps57 fun hc hx k=>?_
 have f0:aBin qc .eql 117 false (.pointer none) (.pointer none)=some (.bool true):=by kernel_rfl
 have f1:∀b,aBin qc .eql 117 false (.pointer none) (.pointer (some ⟨b,0,none⟩))=some (.bool false):=fun b=>by kernel_rfl
 refine J0 (R0 ?_)
 refine J0 (J0 (R0 ?_))
 refine Ja (JD (fun j f M'=>∃i:Nat,j=l.length-i∧f=[(0,.slice (some ⟨P,off,none⟩) l.length c),(1,.pointer none),(7,.int .i64 (l.length:Nat)),(8,.int .i64 (i:Nat))]∧i≤l.length∧
  (∀(k:Nat) o,k<i→l[k]?=some o→o.isNone=false)∧M'=M) l.length ?_ ?_)
 ·refine JK [0,1,7,8] ?_
  exact⟨M,Thin.refl _,0,rfl,rfl,by omega,fun k o hk=>by omega,rfl⟩
 ·rintro j f M' ⟨i,rfl,rfl,hi,hno,e9⟩
  replace e9:=e9.symm;subst e9
  refine J0 (R0 ?_)
  refine J0 (CC (decide ((i:Int)<(l.length:Int))) (fun hq=>J6 ?_) (fun hq=>JE ?_))
  ·have hiL:=of_decide_eq_true hq
   obtain⟨o,ho⟩:∃o,l[i]?=some o:=⟨_,qd (by omega)⟩
   obtain⟨v,hv,hp⟩:=h.at_ i o ho
   have z0:(0:Int)≤(i:Int):=by omega
   have r1:cellIn (off+i) (some (.cells false s0 C))=some v:=hvs i v hv
   have w9:IntKind.i64.wrap ((i:Int)+1)=((i+1:Nat):Int):=by rw[XJ (by omega) (by omega)];omega
   simp only[zZ,reduceIte,yQ,yW,yX,yZ,yJ,yK,yV]
   refine J0 (Ja (J0 (R0 ?_)))
   refine J0 (J1 ?_)
   cases o with
   |none=>
    obtain rfl:v=.pointer none:=hp
    refine S8 @z0 @hiL @and_self @hC @qe @r1 @f0 @f1 ?_
    refine CT (J0 (R0 ?_))
    refine T0 ?_
    exact⟨_,Thin.refl _,by rw[free_rec ho hno],rfl⟩
   |some a=>
    obtain⟨b',s',_,rfl,_⟩:=hp
    refine S8 @z0 @hiL @and_self @hC @qe @r1 @f0 @f1 ?_
    refine CF (J6 ?_)
    simp only[zZ,reduceIte,yQ,yW,yX,yZ,yJ,yK,yV]
    refine R1 @w9 ?_
    refine JK [0,1,7,8] ?_
    refine⟨_,Thin.refl _,l.length-(i+1),⟨i+1,rfl,rfl,by omega,fun k o' hk ho'=>?_,rfl⟩,by omega⟩
    by_cases e:k=i
    ·subst e;rw[ho]at ho';cases ho';rfl
    ·exact hno k o' (by omega) ho'
  ·have hiL:=of_decide_eq_false hq
   simp only[zZ,reduceIte,yQ,yW,yX,yZ,yJ,yK,yV]
   refine J0 (R0 ?_)
   refine T0 ?_
   refine⟨_,Thin.refl _,?_,rfl⟩
   rw[nofree_rec fun k o ho=>hno k o (by have:=(List.getElem?_eq_some_iff.1 ho).1;omega) ho]
theorem free_ext{l:List (Option Ext)}{j:Nat}(h1:l[j]?=some none)(h3:∀(k:Nat) o,k<j→l[k]?=some o→o.isNone=false):freeI (QP l 0)=(j:Int):=by
 rw[freeAt_is h1 fun k hk hb=>by have:=h3 k none hk hb;cases this];rfl
theorem nofree_ext{l:List (Option Ext)}(h3:∀(k:Nat) o,l[k]?=some o→o.isNone=false):freeI (QP l 0)= -1:=by
 rw[freeAt_not fun k hb=>by have:=h3 k none hb;cases this];rfl
theorem freeext_spec(P off s0 c:Nat)(K:List Nat)(M:Mem)(C:List Value)(vs:List Value)(l:List (Option Ext))(hC:M.get P=some (.cells false s0 C))(hvs:∀(i:Nat) v,vs[i]?=some v→C[off+i]?=some v)(h:PtrsAt Ext.cells K M l vs)(hl:l.length≤1000):
 Abs.Spec qc 79 [.slice (some ⟨P,off,none⟩) l.length c,.pointer none] M fun u M'=>u=.int .i64 (freeI (QP l 0))∧M'=M:=by
 refine VE Tryz.func79 Tryz.results79 Tryz.ntmps79 fun hc hx k=>?_
 have f0:aBin qc .eql 119 false (.pointer none) (.pointer none)=some (.bool true):=by kernel_rfl
 have f1:∀b,aBin qc .eql 119 false (.pointer none) (.pointer (some ⟨b,0,none⟩))=some (.bool false):=fun b=>by kernel_rfl
 refine J0 (R0 ?_)
 refine J0 (J0 (R0 ?_))
 refine Ja (JD (fun j f M'=>∃i:Nat,j=l.length-i∧f=[(0,.slice (some ⟨P,off,none⟩) l.length c),(1,.pointer none),(7,.int .i64 (l.length:Nat)),(8,.int .i64 (i:Nat))]∧i≤l.length∧
  (∀(k:Nat) o,k<i→l[k]?=some o→o.isNone=false)∧M'=M) l.length ?_ ?_)
 ·refine JK [0,1,7,8] ?_
  exact⟨M,Thin.refl _,0,rfl,rfl,by omega,fun k o hk=>by omega,rfl⟩
 ·rintro j f M' ⟨i,rfl,rfl,hi,hno,e9⟩
  replace e9:=e9.symm;subst e9
  refine J0 (R0 ?_)
  refine J0 (CC (decide ((i:Int)<(l.length:Int))) (fun hq=>J6 ?_) (fun hq=>JE ?_))
  ·have hiL:=of_decide_eq_true hq
   obtain⟨o,ho⟩:∃o,l[i]?=some o:=⟨_,qd (by omega)⟩
   obtain⟨v,hv,hp⟩:=h.at_ i o ho
   have z0:(0:Int)≤(i:Int):=by omega
   have r1:cellIn (off+i) (some (.cells false s0 C))=some v:=hvs i v hv
   have w9:IntKind.i64.wrap ((i:Int)+1)=((i+1:Nat):Int):=by rw[XJ (by omega) (by omega)];omega
   simp only[zZ,reduceIte,yQ,yW,yX,yZ,yJ,yK,yV]
   refine J0 (Ja (J0 (R0 ?_)))
   refine J0 (J1 ?_)
   cases o with
   |none=>
    obtain rfl:v=.pointer none:=hp
    refine S8 @z0 @hiL @and_self @hC @qe @r1 @f0 @f1 ?_
    refine CT (J0 (R0 ?_))
    refine T0 ?_
    exact⟨_,Thin.refl _,by rw[free_ext ho hno],rfl⟩
   |some a=>
    obtain⟨b',s',_,rfl,_⟩:=hp
    refine S8 @z0 @hiL @and_self @hC @qe @r1 @f0 @f1 ?_
    refine CF (J6 ?_)
    simp only[zZ,reduceIte,yQ,yW,yX,yZ,yJ,yK,yV]
    refine R1 @w9 ?_
    refine JK [0,1,7,8] ?_
    refine⟨_,Thin.refl _,l.length-(i+1),⟨i+1,rfl,rfl,by omega,fun k o' hk ho'=>?_,rfl⟩,by omega⟩
    by_cases e:k=i
    ·subst e;rw[ho]at ho';cases ho';rfl
    ·exact hno k o' (by omega) ho'
  ·have hiL:=of_decide_eq_false hq
   simp only[zZ,reduceIte,yQ,yW,yX,yZ,yJ,yK,yV]
   refine J0 (R0 ?_)
   refine T0 ?_
   refine⟨_,Thin.refl _,?_,rfl⟩
   rw[nofree_ext fun k o ho=>hno k o (by have:=(List.getElem?_eq_some_iff.1 ho).1;omega) ho]
def encS(s:List UInt8):List Value:=[.string (str s)]
abbrev QW(k:Nat)(M:Mem)(V:Value)(L:List (List UInt8)):Prop:=OwnL encS 1 k M V L
theorem Str_zero:Tryz.t9.zero=some (.string ⟨#[]⟩):=rfl
theorem Str_bytes:Tryz.t9.bytes≤1000:=by decide
theorem Ud(s:List UInt8):JF qc 31 1 [(0,.string (str s))]=some (.cells false 1 (encS s)):=by kernel_rfl
theorem strapp{k:Nat}{M:Mem}{V:Value}{L:List (List UInt8)}(h:QW k M V L)(hk:k≤M.size)(hl:L.length≤1000000)(x:List UInt8):
 ∃M' V',JN qc (M.push (.cells false 1 (encS x))) 31 31 V (.slice (some ⟨M.size,0,none⟩) 1 1)=some (V',M')∧ZT V'=some (M.size+1)∧QW k M' V' (L++[x])∧
  M'.size=M.size+2∧(∀b y,ZT V≠some b→M.get b=some y→M'.get b=some y):=
 oapp qh ZA Str_zero sz_Str rfl qh (fun _=>rfl) Str_bytes h hk hl x 1
def blkAt(d:Dsk)(x:Ext)(i:Nat):List UInt8:=(d.sector (x.base.toNat+i)).take 224
theorem blocks_spec(P p q g:Nat)(d:Dsk)(D:Dep)(M:Mem)(h:DepAt M P p q g d D)(x:Ext)(n:Nat)(hn:x.head.n=(n:Int))(hb0:13≤x.base)(hb1:x.base+x.head.n≤(d.old.length:Int)):
 Abs.Spec qc 75 [.pointer (some ⟨P,0,none⟩),.agg x.cells.toArray] M fun u M'=>∃V,u=.tuple #[V,.int .i64 (Qp d x).2]∧QW M.size M' V (Qp d x).1∧More M M':=by
 have hd0:=h.dsk.ok.n
 obtain⟨Z,hZ⟩:∃Z,Z=Qp d x:=⟨_,rfl⟩
 rw[←hZ]
 unfold Qp at hZ
 rw[hn,qe]at hZ
 refine VE Tryz.func75 Tryz.results75 Tryz.ntmps75 fun hc hx k=>?_
 have bx:QK qc 102 (.agg x.cells.toArray)=some (.cells false (J5 qc 102) x.cells):=UP _ rfl
 generalize J5 qc 102=s1 at bx
 have k7:cellIn 7 (some (.cells false s1 x.cells))=some (.int .i64 x.base):=rfl
 have k2:cellIn 2 (some (.cells false s1 x.cells))=some (.int .i64 (n:Nat)):=by rw[←hn];rfl
 obtain⟨b3,hb3⟩:∃b,b=M.size:=⟨_,rfl⟩
 obtain⟨M1,hM1⟩:∃M1,M1=M.push (.cells false s1 x.cells):=⟨_,rfl⟩
 have mo:More M M1:=by rw[hM1];exact More.push _ _
 have hs1:M1.size=M.size+1:=by rw[hM1,Mem.size_push]
 have g3:M1.get b3=some (.cells false s1 x.cells):=by rw[hM1,hb3,Mem.get_push_new]
 have h1:=h.same mo.get
 obtain⟨s,vo,vk,hrow,ho,hk⟩:=h1.row
 have c0:cellIn 0 (some (.cells false s (JG p D vo vk)))=some (dp p):=rfl
 refine J0 (R1 @bx ?_)
 rw[←hM1,←hb3]
 refine J0 (R0 ?_)
 refine XQ (fun f M'=>∃V,f=[(6,V)]∧QW M1.size M' V Z.1∧Z.2=0∧(∀b x,b<M1.size→M1.get b=some x→M'.get b=some x)∧M1.size≤M'.size) ?_ ?_
 ·refine J0 (R2 @g3 @k2 ?_)
  refine Ja (JD (fun j f M'=>∃(i:Nat)(V:Value),j=n-i∧f=[(0,.pointer (some ⟨P,0,none⟩)),(3,.pointer (some ⟨b3,0,none⟩)),(6,V),(12,.int .i64 (n:Nat)),(13,.int .i64 (i:Nat))]∧i≤n∧(d.dead=true→i=0)∧
   QW M1.size M' V ((List.range i).map (blkAt d x))∧(∀b x,b<M1.size→M1.get b=some x→M'.get b=some x)∧M1.size≤M'.size) n ?_ ?_)
  ·refine JK [0,3,6,12,13] ?_
   exact⟨M1,Thin.refl _,0,_,rfl,rfl,by omega,fun _=>rfl,OwnL.nil _ _,fun _ _ _ h=>h,qi _⟩
  ·rintro j f M' ⟨i,V,rfl,rfl,hi,hdz,hown,hold,hsz⟩
   refine J0 (R0 ?_)
   refine J0 (CC (decide ((i:Int)<(n:Int))) (fun hq=>J6 ?_) (fun hq=>JE ?_))
   ·have hin:=of_decide_eq_true hq
    have hrow':=hold _ _ (Mem.get_lt hrow) hrow
    have g3':=hold _ _ (Mem.get_lt g3) g3
    have hdsk:DskAt M' p q g d:=h1.dsk.same fun b y hy=>hold b y (Mem.get_lt hy) hy
    have zw:IntKind.i64.wrap (x.base+(i:Int))=x.base+(i:Int):=XJ (by omega) (by omega)
    have w9:IntKind.i64.wrap ((i:Int)+1)=((i+1:Nat):Int):=by rw[XJ (by omega) (by omega)];omega
    have rs:=read_spec M' p q g d hdsk (x.base+(i:Int))
    simp only[zZ,reduceIte,yQ,yW,yX,yZ,yJ,yK,yV]
    refine J0 (Ja (J0 (R0 ?_)))
    refine J0 (D5 13 @hrow' @c0 @g3' @k7 @zw ?_)
    refine⟨by kernel_rfl,_,rs,?_⟩
    refine S0 ?_
    cases hdd:d.dead with
    |true=>
     have er:d.read (x.base+(i:Int))=([],7):=by
      unfold Dsk.read Dsk.may
      rw[if_pos hdd]
      rfl
     have hZ2:Z=([],7):=by rw[hZ,if_pos ⟨hdd,by omega⟩]
     have q70:((7:Int) !=0)=true:=rfl
     rw[er]
     refine J0 (J0 (R1 @q70 ?_))
     refine CT (J0 (R0 ?_))
     refine T0 ?_
     subst hZ2
     exact⟨_,Thin.refl _,_,rfl,OwnL.nil _ _,fun b y hb=>hold b y (by have:=Mem.get_lt (mo.get b y hb);omega) (mo.get b y hb),by omega⟩
    |false=>
     have et:(x.base+(i:Int)).toNat=x.base.toNat+i:=by omega
     have er:d.read (x.base+(i:Int))=(d.sector (x.base.toNat+i),0):=by
      have hm:d.may (x.base+(i:Int))=0:=by
       unfold Dsk.may
       rw[if_neg (by rw[hdd];decide),if_neg (by omega)]
      unfold Dsk.read
      rw[if_pos hm,et]
     have hl:=h.dsk.ok.sector (i:=x.base.toNat+i) (by omega)
     have sl:=fun get=>ZJ get (str (d.sector (x.base.toNat+i))) 224 (by rw[str_size];omega)
     have sl2:∀get,JS qc get 9 (.string (str (d.sector (x.base.toNat+i)))) none (some (.int .i64 224))=some (.string (str (blkAt d x i))):=sl
     have q00:((0:Int) !=0)=false:=rfl
     have nw:=Ud (blkAt d x i)
     have e6:(List.range i).map (blkAt d x)++[blkAt d x i]=(List.range (i+1)).map (blkAt d x):=by rw[List.range_succ,List.map_append];rfl
     obtain⟨M4,V4,ap4,hb4,hown4,hs4,hold4⟩:=strapp hown hsz (by simp;omega) (blkAt d x i)
     rw[e6]at hown4
     rw[er]
     refine J0 (J0 (R1 @q00 ?_))
     refine CF (J6 ?_)
     simp only[zZ,reduceIte,yQ,yW,yX,yZ,yJ,yK,yV]
     refine R3 @sl2 @nw @ap4 ?_
     refine R1 @w9 ?_
     refine JK [0,3,6,12,13] ?_
     exact⟨_,Thin.refl _,n-(i+1),⟨i+1,V4,rfl,rfl,by omega,fun hd=>(by cases hd),hown4,fun b y hb hy=>hold4 b y (fun e=>by have:=(hown.live e).1;omega) (hold b y hb hy),by omega⟩,by omega⟩
   ·have hin:=of_decide_eq_false hq
    obtain rfl:i=n:=by omega
    have hZ2:Z=((List.range i).map (blkAt d x),0):=by
     rw[hZ,if_neg]
     ·rfl
     ·rintro⟨a,b⟩
      have:=hdz a
      omega
    refine JK [6] ?_
    exact⟨_,Thin.refl _,V,rfl,by rw[hZ2];exact hown,by rw[hZ2],hold,hsz⟩
 rintro _ M2 ⟨V2,rfl,hown2,hz2,hold2,hs2⟩
 refine J0 (R0 ?_)
 refine T0 ?_
 exact⟨_,Thin.refl _,V2,by rw[hz2],hown2.le (by omega),fun b x hb=>hold2 b x (by have:=Mem.get_lt (mo.get b x hb);omega) (mo.get b x hb),by omega⟩
theorem msum_at(x:Int)(v:Value)(xs:List ByteArray)(m:Mem)(hd:Rd m 1 v xs.length (xs.map .string))(hlen:xs.length≤maxLen)(hsz:(Jl xs).length≤140737488355200):
 Abs.Spec qc 238 [.int .i64 x,v] m fun u M=>u=.string (str (Sha.msum x (Jl xs)))∧M=m:=
 Spec.of_below rfl fun ι w ys hy hr=>by
  obtain⟨a',b',rfl,ha,hb⟩:=vrels_two hy
  cases ha
  exact msum_any x b' xs w (Rd.strs hr hd hb) hlen hsz
theorem msum32(l:List UInt8):Sha.msum 32 l=Sha.sum l:=by
 unfold Sha.msum
 rw[List.take_of_length_le]
 rw[Sha.sum_length]
 decide
theorem cut_at(n:Nat)(hn:n≤1152921504606846976)(m:Mem):Abs.Spec qc 239 [.int .i64 n] m fun u M=>u=.int .i64 (Sha.cut n:Nat)∧M=m:=
 Abs.Spec.of_flat (by simp[flat]) rfl fun w=>cut_any n hn w
theorem new_str2(a b:ByteArray):JF qc 31 2 [(0,.string a),(1,.string b)]=some (.cells false 1 [.string a,.string b]):=by kernel_rfl
theorem new_str3(a b c:ByteArray):JF qc 31 3 [(0,.string a),(1,.string b),(2,.string c)]=some (.cells false 1 [.string a,.string b,.string c]):=by kernel_rfl
theorem rd_new(m:Mem)(n:Nat)(cs:List Value)(k:Nat)(hk:cs.length=k*n)(hm:k≤maxLen):Rd (m.push (.cells false n cs)) n (.slice (some ⟨m.size,0,none⟩) k k) k cs:=
 ⟨_,_,rfl,hk,qi _,hm,(fun h=>by cases h),fun p hp=>⟨_,(Option.some.inj hp).symm,fun _=>⟨false,Mem.get_push_new _ _⟩⟩⟩
theorem leaf_at(s:List UInt8)(hs:s.length≤1000000)(m:Mem):Abs.Spec qc 164 [.int .i64 32,.string (str s)] m fun u M=>u=.string (str (VM s))∧M=m:=by
 refine Abs.Spec.of_empty (by intro x hx;simp at hx;rcases hx with rfl|rfl<;>rfl) rfl ?_ m
 refine WM Tryz.func164 Tryz.results164 Tryz.ntmps164 fun _=>?_
 have hj:Jl [str [0],str s]=0::s:=by simp[Jl,str]
 refine J0 (R0 ?_)
 refine J0 (R1 @new_str2 ?_)
 refine K0 (msum_at 32 _ [str [0],str s] _ (rd_new _ 1 _ 2 rfl (by decide)) (show 2≤maxLen by decide) (by rw[hj];simp only[List.length_cons];omega)) ?_
 refine T0 ?_
 exact⟨_,Thin.refl _,by rw[hj,msum32];rfl⟩
theorem node_at(a b:List UInt8)(ha:a.length≤1000000)(hb:b.length≤1000000)(m:Mem):Abs.Spec qc 240 [.int .i64 32,.string (str a),.string (str b)] m fun u M=>u=.string (str (Sha.sum (1::(a++b))))∧M=m:=by
 refine Abs.Spec.of_empty (by intro x hx;simp at hx;rcases hx with rfl|rfl|rfl<;>rfl) rfl ?_ m
 refine WM Tryz.func240 Tryz.results240 Tryz.ntmps240 fun _=>?_
 have hj:Jl [str [1],str a,str b]=1::(a++b):=by simp[Jl,str]
 refine J0 (R0 ?_)
 refine J0 (R1 @new_str3 ?_)
 refine K0 (msum_at 32 _ [str [1],str a,str b] _ (rd_new _ 1 _ 3 rfl (by decide)) (show 3≤maxLen by decide) (by rw[hj];simp only[List.length_cons,List.length_append];omega)) ?_
 refine T0 ?_
 exact⟨_,Thin.refl _,by rw[hj,msum32]⟩
def StrsRd(M:Mem)(v:Value)(L:List (List UInt8)):Prop:=
 ∃a c,v=.slice a L.length c∧L.length≤c∧(L=[]→v=.slice none 0 0∨a≠none)∧∀(i:Nat) x,L[i]?=some x→∃b o ro cs,a=some ⟨b,o,none⟩∧M.get b=some (.cells ro 1 cs)∧cs[o+i]?=some (.string (str x))
theorem StrsRd.same{M M':Mem}{v:Value}{L:List (List UInt8)}(h:StrsRd M v L)(hs:∀b x,M.get b=some x→M'.get b=some x):StrsRd M' v L:=by
 obtain⟨a,c,h1,h2,h3,h4⟩:=h
 refine⟨a,c,h1,h2,h3,fun i x hx=>?_⟩
 obtain⟨b,o,ro,cs,e1,e2,e3⟩:=h4 i x hx
 exact⟨b,o,ro,cs,e1,hs _ _ e2,e3⟩
theorem OwnL.strs{k:Nat}{M:Mem}{V:Value}{L:List (List UInt8)}(h:QW k M V L):StrsRd M V L:=by
 rcases h with⟨rfl,rfl⟩|⟨h0,g,hk,rfl,hg⟩
 ·exact⟨none,0,rfl,by simp,fun _=>.inl rfl,fun i x hx=>by simp at hx⟩
 ·refine⟨_,_,rfl,qi _,fun e=>absurd e h0,fun i x hx=>⟨g,0,false,_,rfl,hg,?_⟩⟩
  rw[Nat.zero_add]
  rw[show L.flatMap encS=L.map (fun s=>Value.string (str s))from flat_one (fun s=>Value.string (str s)) L,List.getElem?_map,hx]
  rfl
theorem ss_from{get:Nat→Option Blk}{b o len cap:Nat}{ro:Bool}{cs:List Value}(hb:get b=some (.cells ro 1 cs))(l:Nat)(h1:l≤len):
 JS qc get 31 (.slice (some ⟨b,o,none⟩) len cap) (some (.int .i64 (l:Nat))) none=some (.slice (some ⟨b,o+l,none⟩) (len-l) (cap-l)):=by
 have hs:Tryz.t9.size=1:=rfl
 have hc:(0:Int)≤(l:Int)∧(l:Int)≤(len:Int):=by omega
 unfold JS QQ
 simp only[qh,ZA,hs,hb,if_pos hc,if_true,Nat.mul_one,qe]
theorem ss_upto{get:Nat→Option Blk}{b o len cap:Nat}{ro:Bool}{cs:List Value}(hb:get b=some (.cells ro 1 cs))(h:Nat)(h1:h≤cap):
 JS qc get 31 (.slice (some ⟨b,o,none⟩) len cap) none (some (.int .i64 (h:Nat)))=some (.slice (some ⟨b,o,none⟩) h cap):=by
 have hs:Tryz.t9.size=1:=rfl
 have hc:(0:Int)≤(h:Int)∧(h:Int)≤(cap:Int):=by omega
 unfold JS QQ
 simp only[qh,ZA,hs,hb,if_pos hc,if_true,Nat.mul_one,Nat.add_zero,Nat.zero_mul,qe,Nat.sub_zero]
theorem rootL_cut{L:List (List UInt8)}(h:2≤L.length):QT L=Sha.sum (1::(QT (L.take (Sha.cut L.length))++QT (L.drop (Sha.cut L.length)))):=by
 match L,h with
 |a::b::r,_=>
  have h1:=Sha.cut_lt (r.length+2) (by omega)
  have h2:=Sha.cut_pos (r.length+2)
  rw[QT,Nat.min_eq_left (by omega),Nat.max_eq_left h2]
  rfl
theorem rootL_le{L:List (List UInt8)}(h:∀x∈L,x.length≤1000000):(QT L).length≤1000000:=by
 match L,h with
 | [],_=>rw[QT,Sha.sum_length];decide
 | [a],h=>rw[QT];exact h a (by simp)
 |a::b::r,_=>rw[QT,Sha.sum_length];decide
theorem mroot_spec:∀(n:Nat)(L:List (List UInt8)),L.length≤n→n≤1000000→(∀x∈L,x.length≤1000000)→∀(M:Mem)(v:Value),StrsRd M v L→
 Abs.Spec qc 165 [.int .i64 32,v] M fun u M'=>u=.string (str (QT L))∧M'=M:=by
 intro n
 induction n with
 |zero=>
  intro L hn _ _ M v h
  obtain rfl:L=[]:=List.eq_nil_of_length_eq_zero (by omega)
  obtain⟨a,c,rfl,_,hnil,_⟩:=h
  have hj:Jl []=[]:=rfl
  have q1:(((0:Nat):Int)==0)=true:=rfl
  refine WM Tryz.func165 Tryz.results165 Tryz.ntmps165 fun _=>?_
  refine J0 (R0 ?_)
  refine J0 (J0 (R0 ?_))
  refine Ja (J0 (R2 @List.length_nil.{0} @q1 ?_))
  refine CT (J0 (R0 ?_))
  refine K0 (msum_at 32 (.slice none 0 0) [] M ⟨none,0,rfl,rfl,qi _,Nat.zero_le _,fun _=>rfl,fun p hp=>by cases hp⟩ (Nat.zero_le _) (by rw[hj];simp)) ?_
  refine T0 ?_
  exact⟨_,Thin.refl _,by rw[hj,msum32,QT],rfl⟩
 |succ n ih=>
  intro L hn hb hxl M v h
  by_cases hle:L.length≤n
  ·exact ih L hle (by omega) hxl M v h
  have hL:L.length=n+1:=by omega
  obtain⟨a,c,rfl,hc2,_,hrd⟩:=h
  have q1:(((L.length:Nat):Int)==0)=false:=by rw[hL];simp;omega
  by_cases h1:n=0
  ·subst h1
   obtain⟨x,rfl⟩:∃x,L=[x]:=List.length_eq_one_iff.1 hL
   obtain⟨b,o,ro,cs,rfl,hg,hcs⟩:=hrd 0 x rfl
   have q2:((([x].length:Nat):Int)==1)=true:=rfl
   have c0:cellIn (o+0) (some (.cells ro 1 cs))=some (.string (str x)):=hcs
   have z0:(0:Int)≤0:=by omega
   have z1:(0:Int)<((1:Nat):Int):=by omega
   refine WM Tryz.func165 Tryz.results165 Tryz.ntmps165 fun _=>?_
   refine J0 (R0 ?_)
   refine J0 (J0 (R0 ?_))
   refine Ja (J0 (R1 @q1 ?_))
   refine CF (J0 (R1 @q2 ?_))
   refine CT (J0 (R6 @List.length_singleton.{0} @z0 @z1 @and_self @hg @c0 ?_))
   refine T0 ?_
   exact⟨_,Thin.refl _,by rw[QT],rfl⟩
  ·have h2:2≤L.length:=by omega
   have cl:=Sha.cut_lt L.length h2
   have cp:=Sha.cut_pos L.length
   have hr:=rootL_cut h2
   obtain⟨ct,hct⟩:∃ct,ct=Sha.cut L.length:=⟨_,rfl⟩
   obtain⟨x0,hx0⟩:∃x,L[0]?=some x:=⟨_,qd (by omega)⟩
   obtain⟨b,o,ro,cs,rfl,hg,_⟩:=hrd 0 x0 hx0
   have rd:∀(i:Nat) x,L[i]?=some x→cs[o+i]?=some (.string (str x)):=fun i x hi=>by
    obtain⟨b',o',ro',cs',e1,e2,e3⟩:=hrd i x hi
    cases e1
    rw[hg]at e2;cases e2
    exact e3
   rw[←hct]at cl cp hr
   have q2:(((L.length:Nat):Int)==1)=false:=by simp;omega
   have cu:=cut_at L.length (by omega) M
   rw[←hct]at cu
   have tl:(L.take ct).length=ct:=by rw[List.length_take];omega
   have dl:(L.drop ct).length=L.length-ct:=by rw[List.length_drop]
   have r1:=ih (L.take ct) (by omega) (by omega) (fun x hm=>hxl x (List.mem_of_mem_take hm)) M (.slice (some ⟨b,o,none⟩) ct c) ⟨_,_,by rw[tl],by omega,fun e=>.inr (by simp),fun i x hi=>by
    rw[List.getElem?_take]at hi
    split at hi
    ·exact⟨b,o,ro,cs,rfl,hg,rd i x hi⟩
    ·cases hi⟩
   have r2:=ih (L.drop ct) (by omega) (by omega) (fun x hm=>hxl x (List.mem_of_mem_drop hm)) M (.slice (some ⟨b,o+ct,none⟩) (L.length-ct) (c-ct)) ⟨_,_,by rw[dl],by omega,fun e=>.inr (by simp),fun i x hi=>by
    rw[List.getElem?_drop]at hi
    exact⟨b,o+ct,ro,cs,rfl,hg,by rw[Nat.add_assoc];exact rd _ x hi⟩⟩
   have s1:=ss_upto (get:=M.get) (o:=o) (len:=L.length) (cap:=c) hg ct (by omega)
   have s2:=ss_from (get:=M.get) (o:=o) (len:=L.length) (cap:=c) hg ct (by omega)
   have nd:=node_at (QT (L.take ct)) (QT (L.drop ct)) (rootL_le fun x hm=>hxl x (List.mem_of_mem_take hm)) (rootL_le fun x hm=>hxl x (List.mem_of_mem_drop hm)) M
   refine WM Tryz.func165 Tryz.results165 Tryz.ntmps165 fun _=>?_
   refine J0 (R0 ?_)
   refine J0 (J0 (R0 ?_))
   refine Ja (J0 (R1 @q1 ?_))
   refine CF (J0 (R1 @q2 ?_))
   refine CF (J6 ?_)
   refine S0 ?_
   refine J0 (R0 ?_)
   refine K0 (cu) ?_
   refine J0 (Xg hmix 11 (by kernel_rfl) (by kernel_rfl) ?_)
   simp only[zZ,reduceIte,yQ,yW,yX,yZ,yJ,yK,yV,zDk,Jc,Jd,J9,J8,Zy,s1]
   refine⟨by kernel_rfl,_,r1,?_⟩
   refine⟨by decide,?_⟩
   refine S1 @s2 ?_
   refine⟨by kernel_rfl,_,r2,?_⟩
   refine⟨by decide,?_⟩
   refine S0 ?_
   refine K0 (nd) ?_
   refine T0 ?_
   exact⟨_,Thin.refl _,by rw[hr],rfl⟩
def StepS(M:Mem)(x:List UInt8)(p p':List (Option Blk)×Value):Prop:=
 JN qc ((M.app p.1).push (.cells false 1 (encS x))) 31 31 p.2 (.slice (some ⟨(M.app p.1).size,0,none⟩) 1 1)=some (p'.2,M.app p'.1)
def InvS(M:Mem)(es:List (List UInt8))(i:Nat)(p:List (Option Blk)×Value):Prop:=p.1.all ZY=true∧QW M.size (M.app p.1) p.2 (es.take i)
theorem chainS(M:Mem)(es:List (List UInt8))(hl:es.length≤100000):∀n,n≤es.length→∃sq:Nat→List (Option Blk)×Value,sq 0=([],.slice none 0 0)∧(∀i,i≤n→InvS M es i (sq i))∧∀(i:Nat) x,i<n→es[i]?=some x→StepS M x (sq i) (sq (i+1)):=by
 intro n
 induction n with
 |zero=>
  intro _
  refine⟨fun _=>([],.slice none 0 0),rfl,fun i hi=>?_,fun i o hi=>by omega⟩
  obtain rfl:i=0:=by omega
  exact⟨rfl,OwnL.nil _ _⟩
 |succ n ih=>
  intro hn
  obtain⟨sq,h0,h1,h2⟩:=ih (by omega)
  obtain⟨x,ho⟩:∃o,es[n]?=some o:=⟨_,qd (by omega)⟩
  have hst:es.take (n+1)=es.take n++[x]:=by rw[List.take_add_one,ho];rfl
  obtain⟨p',hp1,hp2⟩:∃p',InvS M es (n+1) p'∧StepS M x (sq n) p':=by
   obtain⟨i1,i2⟩:=h1 n (qi _)
   obtain⟨N1,V',a1,a2,a3,_⟩:=oappx qh ZA Str_zero sz_Str rfl qh (fun _=>rfl) Str_bytes (M0:=M) rfl i1 i2 (qi _) (by rw[Up];omega) (by rw[List.length_take];omega) x 1
   exact⟨(N1,V'),⟨a2,by rw[hst];exact a3⟩,a1⟩
  refine⟨fun j=>if j=n+1 then p' else sq j,by simp[h0],fun i hi=>?_,fun i o' hi ho'=>?_⟩
  ·by_cases e:i=n+1
   ·subst e;simpa using hp1
   ·simp only[e,if_false];exact h1 i (by omega)
  ·by_cases e:i=n
   ·subst e
    rw[ho]at ho';cases ho'
    simpa using hp2
   ·have e1:¬i=n+1:=by omega
    have e2:¬i+1=n+1:=by omega
    simp only[e1,e2,if_false]
    exact h2 i o' (by omega) ho'
theorem aroot_exact(L:List (List UInt8))(hl:L.length≤1000)(hxl:∀x∈L,x.length≤1000000)(M:Mem)(v:Value)(h:StrsRd M v L):
 ∃N,Abs.Spec qc 78 [v] M (fun u M'=>u=.string (str (rootV L))∧M'=M.app N)∧N.all ZY=true:=by
 obtain⟨a,c,rfl,hc2,hnil,hrd⟩:=h
 obtain⟨sq,sq0,inv,stp⟩:=chainS M (L.map VM) (by rw[qk];omega) L.length (by rw[qk];omega)
 have invL:=inv L.length (qi _)
 refine⟨(sq L.length).1,?_,invL.1⟩
 refine WM Tryz.func78 Tryz.results78 Tryz.ntmps78 fun _=>?_
 have eM:M=M.app (sq 0).1:=by rw[sq0];simp[Mem.app]
 have eV:(Value.slice none 0 0)=(sq 0).2:=by rw[sq0]
 have mfin:∀M':Mem,M'=M.app (sq L.length).1→Abs.Spec qc 165 [.int .i64 32,(sq L.length).2] M' fun u M''=>u=.string (str (QT (L.map VM)))∧M''=M':=fun M' e=>by
  have hown:=invL.2
  rw[List.take_of_length_le (by rw[qk];omega)]at hown
  refine mroot_spec 1000 (L.map VM) (by rw[qk];exact hl) (by decide) (fun y hy=>by
   obtain⟨z,_,rfl⟩:=List.mem_map.1 hy
   show(Sha.sum _).length≤_
   rw[Sha.sum_length];decide) M' _ ?_
  rw[e];exact hown.strs
 refine J0 (R0 ?_)
 refine J0 (R0 ?_)
 rw[eV]
 refine J0 (J0 (R0 ?_))
 refine Ja (JD (fun j f M'=>∃(i:Nat),j=L.length-i∧f=[(3,(sq i).2),(6,.slice a L.length c),(7,.int .i64 (L.length:Nat)),(8,.int .i64 (i:Nat))]∧i≤L.length∧M'=M.app (sq i).1) L.length ?_ ?_)
 ·refine JK [3,6,7,8] ?_
  exact⟨M,Thin.refl _,0,rfl,rfl,by omega,eM⟩
 ·rintro j f M' ⟨i,rfl,rfl,hi,rfl⟩
  refine J0 (R0 ?_)
  refine J0 (CC (decide ((i:Int)<(L.length:Int))) (fun hq=>J6 ?_) (fun hq=>JE ?_))
  ·have hiL:=of_decide_eq_true hq
   obtain⟨x,hxi⟩:∃x,L[i]?=some x:=⟨_,qd (by omega)⟩
   obtain⟨b,o,ro,cs,rfl,hg,hcs⟩:=hrd i x hxi
   have hg':=Zs M (sq i).1 _ _ hg
   have c0:cellIn (o+i) (some (.cells ro 1 cs))=some (.string (str x)):=hcs
   have z0:(0:Int)≤(i:Int):=by omega
   have w9:IntKind.i64.wrap ((i:Int)+1)=((i+1:Nat):Int):=by rw[XJ (by omega) (by omega)];omega
   have lf:=leaf_at x (hxl x (List.mem_of_getElem? hxi)) (M.app (sq i).1)
   have nw:=Ud (VM x)
   have st:=stp i (VM x) (by omega) (by rw[List.getElem?_map,hxi];rfl)
   unfold StepS at st
   refine S0 ?_
   refine J0 (Ja (J0 (R6 @z0 @hiL @and_self @hg' @qe @c0 ?_)))
   refine R0 ?_
   refine K2 @nw @st (lf) ?_
   refine R1 @w9 ?_
   refine JK [3,6,7,8] ?_
   exact⟨_,Thin.refl _,L.length-(i+1),⟨i+1,rfl,rfl,by omega,rfl⟩,by omega⟩
  ·have hiL:=of_decide_eq_false hq
   obtain rfl:i=L.length:=by omega
   have mr:=mfin _ rfl
   refine S0 ?_
   refine J0 (R0 ?_)
   refine K0 (mr) ?_
   refine T0 ?_
   exact⟨_,Thin.refl _,rfl,rfl⟩
end Go.Proofs.YteccmcpaheepcaaGreatDoor
namespace Go.Proofs.YteccmcpaheepcaaGreatDoor
open Go.RowKit
theorem rrotr_key(x n m:Nat)(hx:x<4294967296)(hn1:2≤n)(hn:n≤31)(hm:m=32-n):
 bits .or .i64 ((x:Int)/2^n) (bits .and .i64 (wrap64 ((x:Int)*2^m)) 4294967295)=(Sha.rotr x n:Nat):=by
 have hp:x*2^m≤4611686018427387904:=by
  have h1:2^m≤2^30:=Nat.pow_le_pow_right (by decide) (by omega)
  exact Nat.le_trans (Nat.mul_le_mul (Nat.le_of_lt hx) h1) (by decide)
 have e1:wrap64 ((x:Int)*2^m)=((x*2^m:Nat):Int):=by
  have e:((x:Int)*2^m)=((x*2^m:Nat):Int):=by push_cast;rfl
  rw[e]
  generalize x*2^m=P at*
  unfold wrap64
  omega
 have e2:((x:Int)/2^n)=((x/2^n:Nat):Int):=by push_cast;rfl
 have h2:x/2^n≤x:=Nat.div_le_self _ _
 have e3:=Qj (x*2^m) 4294967295 (by omega) (by omega)
 rw[show x*2^m&&&4294967295=x*2^m%4294967296 from Nat.and_two_pow_sub_one_eq_mod _ 32]at e3
 have h3:x*2^m%4294967296<4294967296:=Nat.mod_lt _ (by decide)
 rw[e1,e2]
 refine(congrArg (bits .or .i64 ((x/2^n:Nat):Int)) e3).trans ?_
 rw[Vu _ _ (by omega) (by omega)]
 unfold Sha.rotr
 rw[Nat.shiftRight_eq_div_pow,Nat.shiftLeft_eq,hm]
theorem rrotr_any(x n:Nat)(hx:x<4294967296)(hn1:2≤n)(hn:n≤31)(w:World):
 Calls qc 215 #[.int .i64 x,.int .i64 n] w fun e w'=>e=.returned (.int .i64 (Sha.rotr x n:Nat))∧Below w.heap.size w w':=by
 have n0:(0:Int)≤n:=by omega
 have n1:(n:Int)<64:=by omega
 obtain⟨m,hm⟩:∃m:Nat,m=32-n:=⟨_,rfl⟩
 have m0:(32:Int)-n=m:=by omega
 have m1:(0:Int)≤m:=by omega
 have m2:(m:Int)<64:=by omega
 have HK:=Lib.hid (rrotr_key x n m hx hn1 hn hm)
 clear hm
 go_enter Tryz.func215,Tryz.ntmps215
 go_wp2_with fail
 go_quiet (fail)
 have HB:=Lib.hid ((Same.drewN w nq).below w.heap.size)
 generalize w.drewN nq=w1 at*
 go_wp2_with fail
 go_ret
 exact⟨by rw[←HK.out];rfl,HB.out⟩
def natV(n:Nat):Value:=.int .i64 n
def w8i(v:Sha.W8):List Nat:=[v.a,v.b,v.c,v.d,v.e,v.f,v.g,v.h]
def UA(m:List UInt8)(k:Nat):List UInt8:=m++0x80::qf k 0
theorem padS_snoc(m:List UInt8)(k:Nat):J4 (UA m k)++[Jr 0]=J4 (UA m (k+1)):=by
 simp[J4,UA,List.replicate_succ']
theorem padS_length(m:List UInt8)(k:Nat):(UA m k).length=m.length+1+k:=by
 simp[UA];omega
theorem pad_byte(n j:Nat)(hn:n≤140737488355200)(hj:j<8):Value.int .u8 (bits BinOp.and IntKind.i64 (8*(n:Int)/2^(8*(7-j))) 255%256)=Jr (UInt8.ofNat ((8*n)>>>(56-8*j))):=by
 have e:(8*(n:Int)/2^(8*(7-j)))=((8*n/2^(8*(7-j)):Nat):Int):=by push_cast;rfl
 have hle:8*n/2^(8*(7-j))≤8*n:=Nat.div_le_self _ _
 have e2:=Qj (8*n/2^(8*(7-j))) 255 (by omega) (by omega)
 rw[show 8*n/2^(8*(7-j))&&&255=8*n/2^(8*(7-j))%256 from Nat.and_two_pow_sub_one_eq_mod _ 8]at e2
 rw[e]
 unfold Jr
 congr 1
 refine(congrArg (·%256) e2).trans ?_
 rw[UInt8.toNat_ofNat',Nat.shiftRight_eq_div_pow,show 56-8*j=8*(7-j) by omega]
 omega
theorem pad_snoc(q:List UInt8)(n j:Nat)(hn:n≤140737488355200)(hj:j<8):J4 (q++(Sha.be8 (8*n)).take j)++[Value.int .u8 (bits BinOp.and IntKind.i64 (8*(n:Int)/2^(8*(7-j))) 255%256)]=J4 (q++(Sha.be8 (8*n)).take (j+1)):=by
 rw[pad_byte n j hn hj,List.take_add_one,be8_get _ _ hj]
 simp[J4]
end Go.Proofs.YteccmcpaheepcaaGreatDoor
