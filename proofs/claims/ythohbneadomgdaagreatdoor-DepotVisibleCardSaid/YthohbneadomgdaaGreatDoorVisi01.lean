import Derived.Test.YthohbneadomgdaaGreatDoorRows
import Derived.WalkKit
import Derived.ProofKit
import Derived.OpenShut
import Derived.ShutString
import Derived.ChangeOld
import Derived.Below
import Derived.JoinedCond
import Derived.Lib.Hide
import Derived.Deep.QuietTactic
import Derived.BigQuiet
import Derived.StillTailTactics
import Derived.Laws.EntriesVeiled
import Derived.WalkLawsBesides
import Derived.Outline
import Derived.Laws.CopyOwn
import Derived.Deep.DeepMust
import Derived.RowKit
import Derived.Lib.AppendStr
import Derived.Deep.LoopGhost
import Derived.Lib.BufferWrite
set_option linter.all false
set_option maxRecDepth 100000
set_option maxHeartbeats 16000000
open Nat renaming reduceLT→yQ,reduceEqDiff→yK,reduceAdd→yV,reduceSub→yY,reduceMul→yU
open Int renaming reduceToNat→yW,reduceLE→yX,reduceEq→yZ,reduceLT→yJ
open Nat renaming le_refl→qc,shiftRight_eq_div_pow→qj,le_mul_of_pos_right→qC,mod_lt→qE
open List renaming replicate→qd,getElem?_toArray→qi,take_succ_cons→qk,drop_succ_cons→qm,getElem?_eq_getElem→qo,take_of_length_le→qp,drop_eq_nil_of_le→qq,drop_append_of_le_length→qt,take_zero→qu,drop_zero→qv,getElem?_append_right→qw,length→qx,append_nil→qy,getElem?_take→qA,length_append→qB,drop_drop→qG,getElem?_drop→qJ
open Go.Proofs.Tryz renaming underlying172→qe,prog→qf,underlying9→qD,underlying269→qI,underlying239→qK
open UInt8 renaming ofNat→qh,toNat_lt→qH
open Array renaming length_toList→qF
namespace Go.Proofs.YthohbneadomgdaaGreatDoor
open Go.ChangeShapes Go.WideShapes Go.ChangeAt Go.RowKit
def IsLaw(s:ChangeSpec)(n:Nat):Prop:=s.vars=[]∧∀(H:Type)(ds:List (DataW H)),ds.length=n→s.fn H ds={ results:=[.lit (.bool true)],args:=ds }
theorem trodAll_length{H:Type}{enc:TypeId×Value→H}{P:Program}{w:World}{base:Nat}{sp:Nat→Bool}{hd:Bool}:
 ∀(ts:List TypeId)(vs:List Value)(ds:List (DataW H))(ps:List MemPlace),DataW.TrodAll enc P w base sp hd ts vs ds ps→ds.length=ts.length∧vs.length=ts.length
 | [],[],[],_,_=>⟨rfl,rfl⟩
 |_::ts,_::vs,_::ds,_,h=>by
  obtain⟨_,q,_,h2,_⟩:=h
  obtain⟨a,b⟩:=trodAll_length ts vs ds q h2
  exact⟨by simp[a],by simp[b]⟩
 | [],_::_,_,_,h=>by simp[DataW.TrodAll]at h
 | [],[],_::_,_,h=>by simp[DataW.TrodAll]at h
 |_::_,[],_,_,h=>by simp[DataW.TrodAll]at h
 |_::_,_::_,[],_,h=>by simp[DataW.TrodAll]at h
theorem trodAll_below{H:Type}{enc:TypeId×Value→H}{P:Program}(hl:laidOutB P=true){W W':World}(hb:Below W.heap.size W W'):
 ∀(ts:List TypeId)(vs:List Value)(ds:List (DataW H))(ps:List MemPlace),(∀t∈ts,P.readableRec t=true∧t<P.types.size)→
  DataW.TrodAll enc P W 0 (fun _=>true) true ts vs ds ps→DataW.TrodAll enc P W' 0 (fun b=>decide (b<W.heap.size)) true ts vs ds ps
 | [],[],[],_,_,h=>h
 |t::ts,_::vs,_::ds,_,ht,h=>by
  obtain⟨p,q,h1,h2,rfl⟩:=h
  have lt1:∀x∈p,x.block<W.heap.size:=by obtain⟨m,hm⟩:=h1;exact DataW.trod_lt m _ _ _ hm
  obtain⟨r1,r2⟩:=ht t (by simp)
  exact⟨p,q,Below.trod hl r1 r2 h1 hb lt1,trodAll_below hl hb ts vs ds q (fun t' ht'=>ht t' (by simp[ht'])) h2,rfl⟩
 | [],_::_,_,_,_,h=>by simp[DataW.TrodAll]at h
 | [],[],_::_,_,_,h=>by simp[DataW.TrodAll]at h
 |_::_,[],_,_,_,h=>by simp[DataW.TrodAll]at h
 |_::_,_::_,[],_,_,h=>by simp[DataW.TrodAll]at h
theorem law_post{H:Type}{enc:TypeId×Value→H}{P:Program}{f:Func}{s:ChangeSpec}{tb:TypeId}(hl:laidOutB P=true)
 (hs:IsLaw s f.params.size) (hr:f.resultTypes=#[tb]) (hu:P.underlying tb=some .bool) (hp:∀t∈f.params.toList,P.readableRec t=true∧t<P.types.size)
 {W W':World} {args:Array Value} {ds gs:List (DataW H)} {before:List MemPlace}
 (hW:DataW.Whole enc P f.params.toList s.vars false W args.toList ds gs before) (hb:Below W.heap.size W W'):
 s.post enc P f false true false false W args (.bool true) W':=by
 have I:=hW
 obtain⟨p,q,O,U,rfl,Z,a2⟩:=hW
 obtain⟨Y,hs⟩:=hs
 rw[Y]at U
 obtain⟨rfl,rfl⟩:=trodVars_none U
 have E:s.fn H (ds++[])={ results:=[.lit (.bool true)],args:=ds }:=by
  rw[qy]
  exact hs H ds (by have:=(trodAll_length _ _ _ _ O).1;simpa using this)
 refine⟨ds,[],_,[],p,[],I,?_,?_,?_,hb.frame _,fun h=>by cases h⟩
 ·rw[E,hr]
  exact trodAll_mk1 (shut_bool hu _)
 ·rw[E]
  exact trodAll_below hl hb _ _ _ _ hp O
 ·rw[Y,E];rfl
theorem own:ownKnob qf.godebug=none:=by kernel_rfl
theorem laidOut:laidOutB qf=true:=by kernel_rfl
structure Shape(α:Type) where
 n:Nat
 rep:World→List Value→α→Prop
 len:∀{w:World}{cs:List Value}{a:α},rep w cs a→cs.length=n
 mono:∀{w w':World}{cs:List Value}{a:α},rep w cs a→Below w.heap.size w w'→rep w' cs a
def Shape.flat{α:Type}(n:Nat)(cells:α→List Value)(h:∀a,(cells a).length=n):Shape α:=
 { n:=n,rep:=fun _ cs a=>cs=cells a,len:=fun e=>by rw[e];exact h _,mono:=fun h _=>h }
def ElemsAt{α:Type}(S:Shape α)(w:World)(a:Option Addr)(cap:Nat)(xs:List α):Prop:=
 (xs=[]∧cap≤maxLen∧(a=none→cap=0))∨∃b off,a=some ⟨b,off,none⟩∧b<w.heap.size∧xs.length≤cap∧cap≤maxLen∧
  ∀(i:Nat)(x:α),xs[i]?=some x→∃cs,S.rep w cs x∧∀j c,cs[j]?=some c→w.cell? ⟨b,off+i*S.n+j,none⟩=some c
theorem ElemsAt.mono{α:Type}{S:Shape α}{w w':World}{a:Option Addr}{cap:Nat}{xs:List α}(h:ElemsAt S w a cap xs)(hb:Below w.heap.size w w'):ElemsAt S w' a cap xs:=by
 rcases h with h|⟨b,E,rfl,I,hl,U,hc⟩
 ·exact .inl h
 ·refine .inr ⟨b,E,rfl,Nat.lt_of_lt_of_le I hb.size,hl,U,fun i x hx=>?_⟩
  obtain⟨cs,O,h2⟩:=hc i x hx
  exact⟨cs,S.mono O hb,fun j c hj=>by rw[hb.cell (p:=⟨b,E+i*S.n+j,none⟩) I];exact h2 j c hj⟩
def SliceOf{α:Type}(S:Shape α)(w:World)(v:Value)(xs:List α):Prop:=∃a cap,v=.slice a xs.length cap∧ElemsAt S w a cap xs
theorem SliceOf.nil{α:Type}(S:Shape α)(w:World):SliceOf S w (.slice none 0 0) []:=⟨none,0,rfl,.inl ⟨rfl,Nat.zero_le _,fun _=>rfl⟩⟩
theorem ElemsAt.at{α:Type}{S:Shape α}{w:World}{a:Option Addr}{cap:Nat}{xs:List α}(h:ElemsAt S w a cap xs){i:Nat}(hi:i<xs.length):
 ∃b off,a=some ⟨b,off,none⟩∧b<w.heap.size∧∃cs,S.rep w cs xs[i]∧∀j c,cs[j]?=some c→w.cell? ⟨b,off+i*S.n+j,none⟩=some c:=by
 rcases h with⟨rfl,_⟩|⟨b,off,rfl,E,_,_,hc⟩
 ·simp at hi
 ·exact⟨b,off,rfl,E,hc i _ (qo hi)⟩
theorem SliceOf.owned{α:Type}{S:Shape α}{w:World}{base e n:Nat}{v:Value}{css:List Value}{xs:List α}(h:w.ownsRow base e S.n v n css)(hn:n=xs.length)(hpos:0<S.n)
 (hr:∀(i:Nat)(x:α),xs[i]?=some x→∃cs,S.rep w cs x∧∀j c,cs[j]?=some c→css[i*S.n+j]?=some c):SliceOf S w v xs:=by
 subst hn
 obtain⟨hl,h⟩:=h
 rcases h with⟨rfl,U⟩|⟨g,cap,cur,rfl,hb,I,hc,Z,hs,O⟩
 ·have:xs=[]:=List.length_eq_zero_iff.1 U
  subst this
  exact SliceOf.nil S w
 ·refine⟨some ⟨g,0,none⟩,cap,rfl,.inr ⟨g,0,rfl,?_,hc,Z,fun i x hx=>?_⟩⟩
  ·have:w.heap[g]?≠none:=by rw[I];simp
   simpa using this
  ·obtain⟨cs,Y,h2⟩:=hr i x hx
   refine⟨cs,Y,fun j c hj=>?_⟩
   have E:=h2 j c hj
   rw[←O]at E
   rw[qA]at E
   split at E
   ·simp[World.cell?,I]
    simpa using E
   ·cases E
theorem Um{w w':World}{base e size n:Nat}{v:Value}{xs:List Value}(h:w.ownsRow base e size v n xs)(hb:Below w.heap.size w w'):w'.ownsRow base e size v n xs:=by
 obtain⟨O,h2⟩:=h
 refine⟨O,?_⟩
 rcases h2 with h2|⟨g,cap,cur,U,I,E,r⟩
 ·exact Or.inl h2
 ·refine Or.inr ⟨g,cap,cur,U,I,?_,r⟩
  have:g<w.heap.size:=by
   have:w.heap[g]?≠none:=by rw[E];simp
   simpa using this
  rw[hb.block g this];exact E
theorem Za{P:Program}{w:World}{ops:Array Oper}{rest:List Oper}{o:Oper}{a:Act}{Q:Exit→Act→World→Prop}(hgd:o.guard=none)(s x:Operand)(t:TypeId)
 (ho:o.op=.call { callee:=.builtin .append,args:=#[s,x],argTypes:=#[t,t] })
 (base e:Nat) (z:Value) (size bytes:Nat) (ht:P.underlying t=some (.slice e)) (hi:(P.info? e).map (fun i=>(i.zero,i.size,i.bytes))=some (some z,size,bytes))
 (hzs:z.cells.size=size) (hsz:0<size) (v:Value) (n:Nat) (xs:List Value) (hs:a.eval s=v) (hown:w.ownsRow base e size v n xs)
 (C:Array Value) (hx:a.eval x=.slice (some ⟨w.heap.size,0,none⟩) 1 1) (hl:C.size=size) (h1:∀u∈C.toList,u.oneCell'=true)
 (hbytes:(n+1)*bytes≤140737488355328) (hby:0<bytes) (hbase:base≤w.heap.size)
 (h:∀v' w',w'.ownsRow base e size v' (n+1) (xs++C.toList)→(w.alloc (.cells C e)).grownBy w' v.ownBlock→wpList P ops Q rest (a.put o.dst v') w'):
 wpList P ops Q (o::rest) a (w.alloc (.cells C e)):=by
 obtain⟨i,hi,U,E,I⟩:=info_parts hi
 refine wpList_append_own _ hgd s x t ho base e i z size bytes ht hi U E I hzs hsz v n xs hs (hown.alloc _) ⟨w.heap.size,0,none⟩ 1 1 C.toList hx (by simpa using hl) ?_ h1 ?_ hbytes (by simp;omega) (fun v' w' h2 h3 _=>h v' w' h2 h3)
 ·intro j u O
  have e:(⟨w.heap.size,0,none⟩:Addr).add j=⟨w.heap.size,j,none⟩:=by cases j<;>simp[Addr.add]
  rw[e,World.cell?_alloc_new]
  simpa using O
 ·have:n+1≤(n+1)*bytes:=qC _ hby
  simp only[maxLen];omega
theorem wpList_append_lit{P:Program}{w:World}{ops:Array Oper}{rest:List Oper}{o:Oper}{a:Act}{Q:Exit→Act→World→Prop}(hgd:o.guard=none)(s x:Operand)(t:TypeId)
 (ho:o.op=.call { callee:=.builtin .append,args:=#[s,x],argTypes:=#[t,t] })
 (base e:Nat) (z:Value) (bytes:Nat) (ht:P.underlying t=some (.slice e)) (hi:(P.info? e).map (fun i=>(i.zero,i.size,i.bytes))=some (some z,1,bytes))
 (hzs:z.cells.size=1) (v:Value) (n:Nat) (xs:List Value) (hs:a.eval s=v) (hown:w.ownsRow base e 1 v n xs)
 (C:Array Value) (m:Nat) (hx:a.eval x=.slice (some ⟨w.heap.size,0,none⟩) m m) (hl:C.size=m) (h1:∀u∈C.toList,u.oneCell'=true)
 (hbytes:(n+m)*bytes≤140737488355328) (hby:0<bytes) (hbase:base≤w.heap.size)
 (h:∀v' w',w'.ownsRow base e 1 v' (n+m) (xs++C.toList)→(w.alloc (.cells C e)).grownBy w' v.ownBlock→wpList P ops Q rest (a.put o.dst v') w'):
 wpList P ops Q (o::rest) a (w.alloc (.cells C e)):=by
 obtain⟨i,hi,U,E,I⟩:=info_parts hi
 refine wpList_append_own _ hgd s x t ho base e i z 1 bytes ht hi U E I hzs (by decide) v n xs hs (hown.alloc _) ⟨w.heap.size,0,none⟩ m m C.toList hx (by simpa using hl) ?_ h1 ?_ hbytes (by simp;omega) (fun v' w' h2 h3 _=>h v' w' h2 h3)
 ·intro j u O
  have e:(⟨w.heap.size,0,none⟩:Addr).add j=⟨w.heap.size,j,none⟩:=by cases j<;>simp[Addr.add]
  rw[e,World.cell?_alloc_new]
  simpa using O
 ·have:n+m≤(n+m)*bytes:=qC _ hby
  simp only[maxLen];omega
theorem VH{α:Type}{P:Program}{w:World}{ops:Array Oper}{rest:List Oper}{o:Oper}{a:Act}{Q:Exit→Act→World→Prop}(c:α→Value)(hc1:∀x,(c x).oneCell'=true)(hgd:o.guard=none)(s x:Operand)(t:TypeId)
 (ho:o.op=.call { callee:=.builtin .append,args:=#[s,x],argTypes:=#[t,t] })
 (base e:Nat) (z:Value) (bytes:Nat) (ht:P.underlying t=some (.slice e)) (hi:(P.info? e).map (fun i=>(i.zero,i.size,i.bytes))=some (some z,1,bytes))
 (hzs:z.cells.size=1) (v:Value) (n:Nat) (ys:List Value) (hs:a.eval s=v) (hown:w.ownsRow base e 1 v n ys)
 (ad:Option Addr) (len cap:Nat) (xs:List α) (hlen:xs.length=len) (hx:a.eval x=.slice ad len cap) (he:ElemsAt (Shape.flat 1 (fun x=>[c x]) (fun _=>rfl)) w ad cap xs)
 (hbytes:(n+len)*bytes≤140737488355328) (hby:0<bytes) (hbase:base≤w.heap.size)
 (h:∀v' w',w'.ownsRow base e 1 v' (n+len) (ys++xs.map c)→w.grownBy w' v.ownBlock→wpList P ops Q rest (a.put o.dst v') w'):
 wpList P ops Q (o::rest) a w:=by
 obtain⟨i,hi,hz,I,a2⟩:=info_parts hi
 subst hlen
 have a6:n+xs.length≤maxLen:=by
  have:n+xs.length≤(n+xs.length)*bytes:=qC _ hby
  simp only[maxLen];omega
 cases ad with
 |none=>
  rcases he with⟨rfl,_,O⟩|⟨b,E,O,_⟩
  ·have U:=O rfl
   subst U
   refine wpList_plain hgd fun K hK=>?_
   have hr:=run_append_owned_none (P:=P) (w:=w) base t o.type e i 1 ht hi v n ys hown
   unfold Oper.wp execOp
   simp only[ho,resolve,invoke,builtin,Sem.run_bind,Sem.run_pure,Result.andThen_ok,List.map_toArray,List.map_cons,List.map_nil,hs,hx,hr,List.length_nil]
   exact hK _ _ (h v w (by simpa using hown) ⟨rfl,rfl,rfl,qc _,fun _ _ _=>rfl⟩)
  ·cases O
 |some ad=>
  refine wpList_append_own _ hgd s x t ho base e i z 1 bytes ht hi hz I a2 hzs (by decide) v n ys hs hown ad xs.length cap (xs.map c) hx (by simp) ?_ (by simpa using fun x _=>hc1 x) a6 hbytes hbase (fun v' w' h2 h3 _=>h v' w' h2 h3)
  intro j u Y
  rcases he with⟨rfl,_⟩|⟨b,E,O,_,_,_,hc⟩
  ·simp at Y
  ·cases O
   simp only[List.getElem?_map,Option.map_eq_some_iff]at Y
   obtain⟨x,hx,rfl⟩:=Y
   obtain⟨cs,rfl,Z⟩:=hc j x hx
   have:=Z 0 _ rfl
   have e:(⟨b,E,none⟩:Addr).add j=⟨b,E+j*1+0,none⟩:=by cases j<;>simp[Addr.add]
   rw[e]
   exact this
theorem Vx{B:Nat}{W w w':World}{o:Obj}{v:Value}{base e size n:Nat}{xs:List Value}(h:Below B W w)(hown:w.ownsRow base e size v n xs)(hg:(w.alloc o).grownBy w' v.ownBlock)(hB:B≤w.heap.size)(hb:B≤base):Below B W w':=
 (h.alloc hB o).grown hg (by simp;omega) (fun k hk=>Nat.le_trans hb (hown.lt k hk).1)
def strS:Shape ByteArray:=Shape.flat 1 (fun s=>[.string s]) (fun _=>rfl)
theorem ElemsAt.str{w:World}{a:Option Addr}{cap:Nat}{ss:List ByteArray}(h:ElemsAt strS w a cap ss){i:Nat}(hi:i<ss.length):
 ∃b off,a=some ⟨b,off,none⟩∧b<w.heap.size∧w.cell? ⟨b,off+i,none⟩=some (.string ss[i]):=by
 obtain⟨b,off,rfl,hb,cs,rfl,hc⟩:=h.at hi
 exact⟨b,off,rfl,hb,by simpa[strS,Shape.flat]using hc 0 _ rfl⟩
theorem Ja{w:World}{g:Nat}{C:Array Value}{T:TypeId}{fr:Nat×Nat}(h:w.heap[g]?=some (.cells C T fr))(i:Nat):w.cell? ⟨g,i,none⟩=C[i]?:=by simp[World.cell?,h]
theorem cells_add{w:World}{g:Nat}{C:Array Value}{T:TypeId}{fr:Nat×Nat}(h:w.heap[g]?=some (.cells C T fr))(j:Nat):w.cell? ((⟨g,0,none⟩:Addr).add j)=C[j]?:=by
 have e:(⟨g,0,none⟩:Addr).add j=⟨g,j,none⟩:=by cases j<;>simp[Addr.add]
 rw[e];exact Ja h j
theorem Jh{w:World}{g:Nat}{C:Array Value}{T:TypeId}(h:w.heap[g]?=some (.cells C T (0,0)))(i:Nat):w.frozen? ⟨g,i,none⟩=false:=by simp[World.frozen?,h]
theorem QP{w:World}{g:Nat}{o:Obj}(h:w.heap[g]?=some o):g<w.heap.size:=by
 have:w.heap[g]?≠none:=by rw[h];simp
 simpa using this
theorem heap_setCell{w:World}{g:Nat}{C:Array Value}{T:TypeId}{fr:Nat×Nat}(h:w.heap[g]?=some (.cells C T fr))(i:Nat)(v:Value):
 (w.setCell ⟨g,i,none⟩ v).heap[g]?=some (.cells (C.setIfInBounds i v) T fr):=by
 simp[World.setCell,Array.getElem?_modify,h]
theorem JM{w:World}{g:Nat}{a:Addr}(hne:g≠a.block)(v:Value):(w.setCell a v).heap[g]?=w.heap[g]?:=Below.heap_setCell w a v g hne
theorem QJ{w:World}{g:Nat}{o o':Obj}(h:w.heap[g]?=some o):(w.alloc o').heap[g]?=some o:=by
 rw[Below.heap_alloc _ _ _ (QP h)];exact h
theorem JH(w:World)(o:Obj):(w.alloc o).heap[w.heap.size]?=some o:=by
 show(w.heap.push o)[w.heap.size]?=_
 simp
theorem X3{w:World}{n:Nat}(hn:n=w.heap.size)(o:Obj):(w.alloc o).heap[n]?=some o:=by subst hn;exact JH w o
theorem JJ{w w':World}{g:Nat}{o:Obj}(h:w.heap[g]?=some o)(hb:Below w.heap.size w w'):w'.heap[g]?=some o:=by rw[hb.block g (QP h)];exact h
theorem wpList_store_new{P:Program}{ops:Array Oper}{rest:List Oper}{o:Oper}{a:Act}{w:World}{Q:Exit→Act→World→Prop}{old:Array Value}{T:TypeId}(hgd:o.guard=none)(ty:TypeId)(x y:Operand)(ho:o.op=.store ty x y)
 (cells:Array Value) (hx:a.eval x=.pointer (some ⟨w.heap.size,0,none⟩)) (hy:a.eval y=.agg cells) (hi:(P.info? ty).map (·.size)=some cells.size)
 (hold:old.size=cells.size) (h1:cells.all (·.oneCell')=true)
 (h:∀wz,wz.heap[w.heap.size]?=some (.cells cells T (0,0))→Below w.heap.size w wz→wz.heap.size=w.heap.size+1→wpList P ops Q rest (a.put o.dst undef) wz):wpList P ops Q (o::rest) a (w.alloc (.cells old T)):=
 wpList_store_row hgd ty x y ho w.heap.size cells hx hy T old (JH _ _) hi hold h1
  (h _ (setRow_heap _ _ _ _ _ _ (JH _ _)) (below_setRow ((Below.refl w.heap.size w).alloc (qc _) _) (qc w.heap.size) cells) (by simp[World.setRow]))
theorem VQ{w:World}{base e size n:Nat}{v:Value}{xs:List Value}(h:w.ownsRow base e size v n xs)(p:Addr)(hne:v.ownBlock≠some p.block)(u:Value):(w.setCell p u).ownsRow base e size v n xs:=by
 obtain⟨O,h2⟩:=h
 refine⟨O,?_⟩
 rcases h2 with h2|⟨g,cap,cur,rfl,I,E,r⟩
 ·exact Or.inl h2
 ·refine Or.inr ⟨g,cap,cur,rfl,I,?_,r⟩
  rw[JM (by intro e;exact hne (by simp[Value.ownBlock,e]))];exact E
theorem ownBlock_ne{w:World}{base e size n:Nat}{v:Value}{xs:List Value}(h:w.ownsRow base e size v n xs){g:Nat}{C:Array Value}{T:TypeId}{fr:Nat×Nat}(hg:w.heap[g]?=some (.cells C T fr))(hT:T≠e):v.ownBlock≠some g:=by
 rcases h.2 with⟨rfl,_⟩|⟨I,cap,cur,rfl,_,E,_⟩
 ·simp[Value.ownBlock]
 ·intro e
  simp only[Value.ownBlock,Option.some.injEq]at e
  subst e
  rw[hg]at E
  cases E
  exact hT rfl
theorem Qv{α:Type}(c:α→Value){w:World}{base e n:Nat}{v:Value}{xs:List α}(h:w.ownsRow base e 1 v n (xs.map c)):SliceOf (Shape.flat 1 (fun x=>[c x]) (fun _=>rfl)) w v xs:=by
 have E:n=xs.length:=by have:=h.1;simp at this;omega
 refine SliceOf.owned (S:=Shape.flat 1 (fun x=>[c x]) (fun _=>rfl)) h E (Nat.lt_succ_self 0) fun i x hx=>⟨_,rfl,fun j u hj=>?_⟩
 cases j with
 |zero=>simp[Shape.flat,hx]at hj ⊢;exact hj
 |succ j=>simp at hj
structure Same(w w':World):Prop where
 heap:w'.heap=w.heap
 os:w'.os=w.os
 tape:w'.tape=w.tape
 output:w'.output=w.output
theorem Same.drew(w:World):Same w w.drew:=⟨rfl,rfl,rfl,rfl⟩
theorem Same.below{w w':World}(h:Same w w')(B:Nat):Below B w w':=⟨h.os,h.tape,h.output,by rw[h.heap];exact qc _,fun k _=>by rw[h.heap]⟩
theorem Same.at{w w':World}(h:Same w w'){g:Nat}{o:Obj}(hg:w.heap[g]?=some o):w'.heap[g]?=some o:=by rw[h.heap];exact hg
theorem Same.size{w w':World}(h:Same w w'):w'.heap.size=w.heap.size:=by rw[h.heap]
theorem quiet_add{P:Program}{f:FuncId}{args:Array Value}{w:World}{a n:Nat}{v:Value}
 (h:Calls P f args (w.drewN (a+n)) fun e w'=>e=.returned v∧∃m,w'=(w.drewN (a+n)).drewN m):
 Calls P f args (w.drewN (a+n)) fun e w''=>e=.returned v∧∃m,w''=w.drewN (a+m):=
 h.mono fun _ _ ⟨he,m,hm⟩=>⟨he,n+m,by rw[hm,World.drewN_drewN,Nat.add_assoc]⟩
theorem Same.drewN(w:World)(n:Nat):Same w (w.drewN n):=⟨rfl,rfl,rfl,rfl⟩
theorem Same.trans{a b c:World}(h:Same a b)(k:Same b c):Same a c:=⟨k.heap.trans h.heap,k.os.trans h.os,k.tape.trans h.tape,k.output.trans h.output⟩
theorem Same.cell{w w':World}(h:Same w w'){a:Addr}{v:Value}(hc:w.cell? a=some v):w'.cell? a=some v:=by
 rw[World.cell?_of_block (w:=w) (by rw[h.heap])];exact hc
theorem region_pure{P:Program}{id:Nat}{Q:Exit→Act→World→Prop}{a:Act}{w:World}{l:List Oper}(hm:P.follows .mixedOrders=true)(hB:Region.lexB .any l.toArray=true)
 (h:∀(I:Type)(_:Nonempty I)(f:I→World),(∀i,Below w.heap.size w (f i))→Hid (∀w',Below w.heap.size w w'→∃j,w'=f j)→
  wpQuiet P l.toArray (fun w'=>∃i,w'=f i) (fun a'=>∀i,Q .normal a' (f i)) l a):(Code.region id l.toArray true).wp P Q a w:=by
 let I:={ w':World//Below w.heap.size w w' }
 have O:Nonempty I:=⟨⟨w,Below.refl _ _⟩⟩
 have E:=h I O (fun i=>i.val) (fun i=>i.property) (fun w' hw=>⟨⟨w',hw⟩,rfl⟩)
 refine wp_region_quiet (C:=fun w'=>∃i:I,w'=i.val) hm hB ?_ ?_
 ·exact⟨⟨_,(Below.refl _ w).drew⟩,rfl⟩
 ·have e:(fun a'=>∀i:I,Q .normal a' i.val)=(fun a'=>∀w',(∃i:I,w'=i.val)→Q .normal a' w'):=by
   funext a'
   apply propext
   constructor
   ·rintro hi w' ⟨i,rfl⟩;exact hi i
   ·intro hi i;exact hi _ ⟨i,rfl⟩
  rw[e]at E
  simpa using E
theorem pure_of{P:Program}{w:World}{I:Type}{f:I→World}(hf:∀i,Below w.heap.size w (f i))(hback:Hid (∀w',Below w.heap.size w w'→∃j,w'=f j)){n:FuncId}{args:Array Value}{v:Value}{i:I}
 (h:Calls P n args (f i) fun e w'=>e=.returned v∧Below (f i).heap.size (f i) w'):Calls P n args (f i) fun e w''=>e=.returned v∧∃j,w''=f j:=
 h.mono fun _ _ ⟨he,hb⟩=>⟨he,hback _ ((hf i).trans (hb.mono (hf i).size))⟩
theorem idx(e:Int)(n:Nat)(h:e=n)(hn:n≤4611686018427387904):IntKind.i64.wrap e=e∧0≤e∧e.toNat=n:=by
 subst h
 refine⟨?_,by omega,by simp⟩
 rw[IntKind.wrap_i64];omega
theorem U7{P:Program}{id:Nat}{Q:Exit→Act→World→Prop}{a:Act}{w:World}{l:List Oper}(n:Nat)(hm:P.follows .mixedOrders=true)(hB:Region.lexTailB .any l.toArray n=true)
 (h:∀w2:World,Same w w2→wpStill P l.toArray w2 (fun a'=>wpList P l.toArray Q (l.drop n) a' w2) (l.take n) a):(Code.region id l.toArray true).wp P Q a w:=
 wp_region_still_tail n hm hB (h _ ⟨rfl,rfl,rfl,rfl⟩)
section
variable {H : Type} {enc : TypeId × Value → H} {P : Program} {w : World}
theorem UL{α β:Type}{f:α→Option β}:∀{l:List α}{r:List β},l.mapM f=some r→r.length=l.length∧∀i (h:i<l.length),f l[i]=r[i]?
 | [],r,h=>by
   simp only[List.mapM_nil,Option.pure_def,Option.some.injEq]at h
   subst h
   exact⟨rfl,fun i h=>by simp at h⟩
 |a::l,r,h=>by
  simp only[List.mapM_cons,Option.pure_def,Option.bind_eq_bind,Option.bind_eq_some_iff]at h
  obtain⟨b,hb,r',hr,he⟩:=h
  simp only[Option.some.injEq]at he
  subst he
  obtain⟨h1,h2⟩:=UL hr
  refine⟨by simp[h1],fun i hi=>?_⟩
  cases i with
  |zero=>simpa using hb
  |succ i=>simpa using h2 i (by simpa using hi)
theorem cells?_get{base:Nat}{a:Addr}{n:Nat}{cs:List Value}(h:w.cells? base a n=some cs):cs.length=n∧∀j c,cs[j]?=some c→w.cell? (a.add j)=some c:=by
 unfold World.cells? at h
 split at h
 ·obtain⟨I,h2⟩:=UL h
  refine⟨by simpa using I,fun j c hj=>?_⟩
  have E:j<cs.length:=by
   have:=List.getElem?_eq_some_iff.1 hj
   exact this.1
  have:=h2 j (by simpa[I]using E)
  simp at this
  rw[this];exact hj
 ·cases h
end
end Go.Proofs.YthohbneadomgdaaGreatDoor
namespace Go.Proofs.YthohbneadomgdaaGreatDoor.Sha
abbrev Bytes:=List UInt8
def rotr(x n:Nat):Nat:=(x>>>n)|||((x<<<(32-n))%4294967296)
def s0(x:Nat):Nat:=(rotr x 7^^^rotr x 18)^^^(x>>>3)
def s1(x:Nat):Nat:=(rotr x 17^^^rotr x 19)^^^(x>>>10)
def big0(a:Nat):Nat:=(rotr a 2^^^rotr a 13)^^^rotr a 22
def big1(e:Nat):Nat:=(rotr e 6^^^rotr e 11)^^^rotr e 25
def ch(e f g:Nat):Nat:=(e&&&f)^^^((4294967295-e)&&&g)
def maj(a b c:Nat):Nat:=((a&&&b)^^^(a&&&c))^^^(b&&&c)
structure W8 where
 a:Nat
 b:Nat
 c:Nat
 d:Nat
 e:Nat
 f:Nat
 g:Nat
 h:Nat
 deriving DecidableEq
def start:W8:=⟨0x6a09e667,0xbb67ae85,0x3c6ef372,0xa54ff53a,0x510e527f,0x9b05688c,0x1f83d9ab,0x5be0cd19⟩
def K:List Nat:=[
 0x428a2f98,0x71374491,0xb5c0fbcf,0xe9b5dba5,0x3956c25b,0x59f111f1,0x923f82a4,0xab1c5ed5,0xd807aa98,0x12835b01,0x243185be,0x550c7dc3,0x72be5d74,0x80deb1fe,0x9bdc06a7,0xc19bf174,
 0xe49b69c1,0xefbe4786,0x0fc19dc6,0x240ca1cc,0x2de92c6f,0x4a7484aa,0x5cb0a9dc,0x76f988da,0x983e5152,0xa831c66d,0xb00327c8,0xbf597fc7,0xc6e00bf3,0xd5a79147,0x06ca6351,0x14292967,
 0x27b70a85,0x2e1b2138,0x4d2c6dfc,0x53380d13,0x650a7354,0x766a0abb,0x81c2c92e,0x92722c85,0xa2bfe8a1,0xa81a664b,0xc24b8b70,0xc76c51a3,0xd192e819,0xd6990624,0xf40e3585,0x106aa070,
 0x19a4c116,0x1e376c08,0x2748774c,0x34b0bcb5,0x391c0cb3,0x4ed8aa4a,0x5b9cca4f,0x682e6ff3,0x748f82ee,0x78a5636f,0x84c87814,0x8cc70208,0x90befffa,0xa4506ceb,0xbef9a3f7,0xc67178f2]
def turn(v:W8)(k w:Nat):W8:=
 let t1:=(v.h+big1 v.e+ch v.e v.f v.g+k+w)%4294967296
 let t2:=(big0 v.a+maj v.a v.b v.c)%4294967296
 ⟨(t1+t2)%4294967296,v.a,v.b,v.c,(v.d+t1)%4294967296,v.e,v.f,v.g⟩
def beWord(b:Bytes)(i:Nat):Nat:=(b.getD (4*i) 0).toNat*16777216+(b.getD (4*i+1) 0).toNat*65536+(b.getD (4*i+2) 0).toNat*256+(b.getD (4*i+3) 0).toNat
def nextW(w:List Nat)(t:Nat):Nat:=(w.getD (t-16) 0+s0 (w.getD (t-15) 0)+w.getD (t-7) 0+s1 (w.getD (t-2) 0))%4294967296
def sched(b:Bytes):Nat→List Nat
 |0=>[]
 |t+1=>let w:=sched b t;w++[if t<16 then beWord b t else nextW w t]
def rounds(h:W8)(w:List Nat):Nat→W8
 |0=>h
 |t+1=>turn (rounds h w t) (K.getD t 0) (w.getD t 0)
def W8.plus(x y:W8):W8:=
 ⟨(x.a+y.a)%4294967296,(x.b+y.b)%4294967296,(x.c+y.c)%4294967296,(x.d+y.d)%4294967296,(x.e+y.e)%4294967296,(x.f+y.f)%4294967296,(x.g+y.g)%4294967296,(x.h+y.h)%4294967296⟩
def mix(h:W8)(b:Bytes):W8:=h.plus (rounds h (sched b 64) 64)
def blocksN(h:W8)(l:Bytes):Nat→W8
 |0=>h
 |k+1=>blocksN (mix h (l.take 64)) (l.drop 64) k
def blocks(h:W8)(l:Bytes):W8:=blocksN h l (l.length/64)
def rest(l:Bytes):Bytes:=l.drop (64*(l.length/64))
def zeros(n:Nat):Nat:=(56+64-n%64)%64
def be8(n:Nat):Bytes:=[qh (n>>>56),qh (n>>>48),qh (n>>>40),qh (n>>>32),qh (n>>>24),qh (n>>>16),qh (n>>>8),qh n]
def tail(n:Nat):Bytes:=0x80::(qd (zeros (n+1)) 0++be8 (8*n))
def be4(n:Nat):Bytes:=[qh (n>>>24),qh (n>>>16),qh (n>>>8),qh n]
def W8.bytes(v:W8):Bytes:=be4 v.a++be4 v.b++be4 v.c++be4 v.d++be4 v.e++be4 v.f++be4 v.g++be4 v.h
def sum(l:Bytes):Bytes:=(blocks start (l++tail l.length)).bytes
theorem sum_length(l:Bytes):(sum l).length=32:=by simp[sum,W8.bytes,be4]
theorem blocksN_append:∀(k:Nat)(h:W8)(l r:Bytes),64*k≤l.length→blocksN h (l++r) k=blocksN h l k
 |0,_,_,_,_=>rfl
 |k+1,h,l,r,hk=>by
  simp only[blocksN]
  rw[List.take_append_of_le_length (by omega),qt (by omega)]
  exact blocksN_append k _ _ _ (by simp;omega)
theorem blocksN_add:∀(j k:Nat)(h:W8)(l:Bytes),blocksN h l (j+k)=blocksN (blocksN h l j) (l.drop (64*j)) k
 |0,k,h,l=>by simp[blocksN]
 |j+1,k,h,l=>by
  rw[show j+1+k=(j+k)+1 from by omega]
  simp only[blocksN]
  rw[blocksN_add j k,qG]
  congr 2
  omega
theorem blocksN_succ(k:Nat)(h:W8)(l:Bytes):blocksN h l (k+1)=mix (blocksN h l k) ((l.drop (64*k)).take 64):=by
 rw[blocksN_add];rfl
theorem rest_length(l:Bytes):(rest l).length=l.length%64:=by simp[rest];omega
theorem blocks_append(h:W8)(l r:Bytes):blocks h (l++r)=blocks (blocks h l) (rest l++r):=by
 have e:(l++r).length/64=l.length/64+((rest l++r).length)/64:=by simp[rest_length];omega
 unfold blocks
 rw[e,blocksN_add,blocksN_append _ _ _ _ (by omega)]
 congr 1
 rw[qt (by omega)]
 rfl
theorem rest_append(l r:Bytes):rest (l++r)=rest (rest l++r):=by
 have e:(l++r).length/64=l.length/64+((rest l++r).length)/64:=by simp[rest_length];omega
 show(l++r).drop (64*((l++r).length/64))=(rest l++r).drop (64*((rest l++r).length/64))
 rw[e,Nat.mul_add,←qG,qt (by omega)]
 rfl
theorem sum_eq(l:Bytes):sum l=(blocks (blocks start l) (rest l++tail l.length)).bytes:=by rw[sum,blocks_append]
theorem sched_length(b:Bytes):∀t,(sched b t).length=t
 |0=>rfl
 |t+1=>by simp[sched,sched_length b t]
theorem sched_take(b:Bytes)(t:Nat):∀u,t≤u→(sched b u).take t=sched b t
 |0,h=>by
  have e:t=0:=by omega
  rw[e];rfl
 |u+1,h=>by
  by_cases e:t=u+1
  ·subst e;rw[qp (by rw[sched_length];omega)]
  ·simp only[sched]
   rw[List.take_append_of_le_length (by rw[sched_length];omega)]
   exact sched_take b t u (by omega)
theorem sched_getD(b:Bytes)(t u:Nat)(h:t<u):(sched b u).getD t 0=if t<16 then beWord b t else nextW (sched b t) t:=by
 have E:=sched_take b (t+1) u h
 have h2:((sched b u).take (t+1)).getD t 0=(sched b u).getD t 0:=by simp[List.getD,qA]
 rw[←h2,E]
 simp[sched,List.getD,sched_length]
theorem or_lt{x y:Nat}(hx:x<4294967296)(hy:y<4294967296):x|||y<4294967296:=Nat.or_lt_two_pow (n:=32) hx hy
theorem xor_lt{x y:Nat}(hx:x<4294967296)(hy:y<4294967296):x^^^y<4294967296:=Nat.xor_lt_two_pow (n:=32) hx hy
theorem and_lt{x y:Nat}(hx:x<4294967296):x&&&y<4294967296:=Nat.lt_of_le_of_lt Nat.and_le_left hx
theorem shr_lt{x n:Nat}(hx:x<4294967296):x>>>n<4294967296:=Nat.lt_of_le_of_lt (Nat.shiftRight_le _ _) hx
theorem rotr_lt{x n:Nat}(hx:x<4294967296):rotr x n<4294967296:=or_lt (shr_lt hx) (qE _ (by decide))
theorem byte_lt(b:UInt8):b.toNat<256:=b.toNat_lt
theorem beWord_lt(b:Bytes)(i:Nat):beWord b i<4294967296:=by
 unfold beWord
 have:=byte_lt (b.getD (4*i) 0);have:=byte_lt (b.getD (4*i+1) 0);have:=byte_lt (b.getD (4*i+2) 0);have:=byte_lt (b.getD (4*i+3) 0)
 omega
theorem nextW_lt(w:List Nat)(t:Nat):nextW w t<4294967296:=qE _ (by decide)
theorem sched_lt(b:Bytes)(t u:Nat):(sched b u).getD t 0<4294967296:=by
 by_cases h:t<u
 ·rw[sched_getD b t u h];split
  ·exact beWord_lt _ _
  ·exact nextW_lt _ _
 ·rw[List.getD_eq_getElem?_getD,List.getElem?_eq_none (by rw[sched_length];omega)];decide
theorem K_lt(t:Nat):K.getD t 0<4294967296:=by
 by_cases h:t<64
 ·have:∀t:Fin 64,K.getD t.val 0<4294967296:=by decide
  exact this ⟨t,h⟩
 ·rw[List.getD_eq_getElem?_getD,List.getElem?_eq_none (by simp[K];omega)];decide
structure W8.Fit(v:W8):Prop where
 a:v.a<4294967296
 b:v.b<4294967296
 c:v.c<4294967296
 d:v.d<4294967296
 e:v.e<4294967296
 f:v.f<4294967296
 g:v.g<4294967296
 h:v.h<4294967296
theorem start_fit:start.Fit:=by constructor<;>decide
theorem turn_fit{v:W8}(h:v.Fit)(k w:Nat):(turn v k w).Fit:=⟨qE _ (by decide),h.a,h.b,h.c,qE _ (by decide),h.e,h.f,h.g⟩
theorem rounds_fit{h:W8}(hf:h.Fit)(w:List Nat):∀t,(rounds h w t).Fit
 |0=>hf
 |t+1=>turn_fit (rounds_fit hf w t) _ _
theorem plus_fit(x y:W8):(x.plus y).Fit:=by constructor<;>exact qE _ (by decide)
theorem mix_fit(h:W8)(b:Bytes):(mix h b).Fit:=plus_fit _ _
theorem blocksN_fit:∀(k:Nat){h:W8}(l:Bytes),h.Fit→(blocksN h l k).Fit
 |0,_,_,hf=>hf
 |k+1,_,_,_=>blocksN_fit k _ (mix_fit _ _)
theorem blocks_fit{h:W8}(l:Bytes)(hf:h.Fit):(blocks h l).Fit:=blocksN_fit _ _ hf
example:sum []=[0xe3,0xb0,0xc4,0x42,0x98,0xfc,0x1c,0x14,0x9a,0xfb,0xf4,0xc8,0x99,0x6f,0xb9,0x24,0x27,0xae,0x41,0xe4,0x64,0x9b,0x93,0x4c,0xa4,0x95,0x99,0x1b,0x78,0x52,0xb8,0x55]:=by decide+kernel
end Go.Proofs.YthohbneadomgdaaGreatDoor.Sha
namespace Go.Proofs.YthohbneadomgdaaGreatDoor
open Go.RowKit
theorem rotr_bits(x n:Nat)(hx:x<4294967296)(hn:n<32):
 bits BinOp.or IntKind.u32 ((x:Int)/2^n) ((x:Int)*2^(32-n)%4294967296)=(Sha.rotr x n:Nat):=by
 have I:((x:Int)/2^n)=((x>>>n:Nat):Int):=by rw[qj];simp
 have E:((x:Int)*2^(32-n)%4294967296)=(((x<<<(32-n))%4294967296:Nat):Int):=by rw[Nat.shiftLeft_eq];simp
 rw[I,E,u32_or_nat _ _ (Sha.shr_lt hx) (qE _ (by decide))]
 rfl
theorem turn_any(x n:Nat)(hx:x<4294967296)(hn:n<32)(w:World):
 Calls qf 218 #[.int .u32 x,.int .i64 n] w fun e w'=>e=.returned (.int .u32 (Sha.rotr x n))∧∃k,w'=w.drewN k:=by
 have e:=rotr_bits x n hx hn
 go_enter Tryz.func218,Tryz.ntmps218
 go_wp2
 go_quiet (fail)
 go_wp2
 go_ret
 exact⟨rfl,_,rfl⟩
theorem turn_i(x:Nat)(b:Int)(hx:x<4294967296)(h0:0≤b)(hb:b<32)(w:World):
 Calls qf 218 #[.int .u32 x,.int .i64 b] w fun e w'=>e=.returned (.int .u32 (Sha.rotr x b.toNat))∧∃k,w'=w.drewN k:=by
 obtain⟨n,rfl⟩:=Int.eq_ofNat_of_zero_le h0
 rw[Int.toNat_natCast]
 exact turn_any x n hx (by omega) w
def u32s(l:List Nat):List Value:=l.map fun(n:Nat)=>Value.int .u32 n
def ZU:Shape UInt8:=Shape.flat 1 (fun b=>[.int .u8 b.toNat]) (fun _=>rfl)
theorem ElemsAt.byte{w:World}{a:Option Addr}{cap:Nat}{l:List UInt8}(h:ElemsAt ZU w a cap l){i:Nat}(hi:i<l.length):
 ∃b off,a=some ⟨b,off,none⟩∧b<w.heap.size∧w.cell? ⟨b,off+i,none⟩=some (.int .u8 (l.getD i 0).toNat):=by
 obtain⟨b,off,rfl,hb,cs,rfl,hc⟩:=h.at hi
 refine⟨b,off,rfl,hb,?_⟩
 have:=hc 0 _ rfl
 simpa[ZU,Shape.flat,List.getD,qo hi]using this
theorem fill_set(xs:List Value)(t:Nat)(z v:Value)(n:Nat)(hx:xs.length=t)(hn:t<n):
 (xs++qd (n-t) z).toArray.setIfInBounds t v=(xs++[v]++qd (n-(t+1)) z).toArray:=by
 apply Array.ext'
 rw[Array.toList_setIfInBounds]
 subst hx
 obtain⟨k,E⟩:∃k,n-xs.length=k+1:=⟨n-xs.length-1,by omega⟩
 rw[E,show n-(xs.length+1)=k by omega,List.replicate_succ]
 simp[List.set_append]
theorem u32s_sched(b:Sha.Bytes)(t:Nat):u32s (Sha.sched b t)++[Value.int .u32 ((if t<16 then Sha.beWord b t else Sha.nextW (Sha.sched b t) t:Nat):Int)]=u32s (Sha.sched b (t+1)):=by
 simp[u32s,Sha.sched]
theorem or_add(a b n:Nat)(h:b<2^n):(a*2^n)|||b=a*2^n+b:=by
 rw[←Nat.shiftLeft_eq,Nat.shiftLeft_add_eq_or_of_lt h]
theorem be_bits(a b c d:Nat)(ha:a<256)(hb:b<256)(hc:c<256)(hd:d<256):
 bits BinOp.or IntKind.u32 (bits BinOp.or IntKind.u32 (bits BinOp.or IntKind.u32 ((a:Int)%4294967296*16777216%4294967296) ((b:Int)%4294967296*65536%4294967296)) ((c:Int)%4294967296*256%4294967296)) ((d:Int)%4294967296)
  =((a*16777216+b*65536+c*256+d:Nat):Int):=by
 have w:∀n:Int,0≤n→n<4294967296→n%4294967296=n:=fun n h0 h1=>by omega
 rw[w a (by omega) (by omega),w b (by omega) (by omega),w c (by omega) (by omega),w d (by omega) (by omega),w _ (by omega) (by omega),w _ (by omega) (by omega),w _ (by omega) (by omega)]
 rw[show((a:Int)*16777216)=((a*16777216:Nat):Int) by simp,show((b:Int)*65536)=((b*65536:Nat):Int) by simp,show((c:Int)*256)=((c*256:Nat):Int) by simp]
 have I:(a*16777216)|||(b*65536)=a*16777216+b*65536:=or_add a (b*65536) 24 (by omega)
 have O:(a*16777216+b*65536)|||(c*256)=a*16777216+b*65536+c*256:=by
  have:=or_add (a*256+b) (c*256) 16 (by omega)
  rw[show(a*256+b)*2^16=a*16777216+b*65536 by omega]at this
  exact this
 have E:(a*16777216+b*65536+c*256)|||d=a*16777216+b*65536+c*256+d:=by
  have:=or_add (a*65536+b*256+c) d 8 (by omega)
  rw[show(a*65536+b*256+c)*2^8=a*16777216+b*65536+c*256 by omega]at this
  exact this
 rw[u32_or_nat _ _ (by omega) (by omega),I,u32_or_nat _ _ (by omega) (by omega),O,u32_or_nat _ _ (by omega) (by omega),E]
theorem Uv(a b c:Nat)(ha:a<4294967296)(hb:b<4294967296)(hc:c<4294967296):
 bits BinOp.xor IntKind.u32 (bits BinOp.xor IntKind.u32 (a:Int) (b:Int)) (c:Int)=(((a^^^b)^^^c:Nat):Int):=by
 rw[u32_xor_nat _ _ ha hb,u32_xor_nat _ _ (Sha.xor_lt ha hb) hc]
theorem next_bits(x16 x15 x7 x2:Nat)(h15:x15<4294967296)(h2:x2<4294967296):
 ((x16:Int)+bits BinOp.xor IntKind.u32 (bits BinOp.xor IntKind.u32 ((Sha.rotr x15 7:Nat):Int) ((Sha.rotr x15 18:Nat):Int)) ((x15:Int)/8)+x7+
   bits BinOp.xor IntKind.u32 (bits BinOp.xor IntKind.u32 ((Sha.rotr x2 17:Nat):Int) ((Sha.rotr x2 19:Nat):Int)) ((x2:Int)/1024))%4294967296=(((x16+Sha.s0 x15+x7+Sha.s1 x2)%4294967296:Nat):Int):=by
 have U:∀y:Nat,(y:Int)/(8:Int)=((y>>>3:Nat):Int):=fun y=>by rw[qj];omega
 have O:∀y:Nat,(y:Int)/(1024:Int)=((y>>>10:Nat):Int):=fun y=>by rw[qj];omega
 rw[U,O]
 rw[Uv _ _ _ (Sha.rotr_lt h15) (Sha.rotr_lt h15) (Sha.shr_lt h15),Uv _ _ _ (Sha.rotr_lt h2) (Sha.rotr_lt h2) (Sha.shr_lt h2)]
 have I:(Sha.rotr x15 7^^^Sha.rotr x15 18)^^^(x15>>>3)=Sha.s0 x15:=rfl
 have E:(Sha.rotr x2 17^^^Sha.rotr x2 19)^^^(x2>>>10)=Sha.s1 x2:=rfl
 rw[I,E]
 omega
theorem words_any(b off cap:Nat)(l:List UInt8)(hl:l.length=64)(w:World)(he:ElemsAt ZU w (some ⟨b,off,none⟩) cap l):
 Calls qf 217 #[.slice (some ⟨b,off,none⟩) 64 cap] w fun e w'=>e=.returned (.agg (u32s (Sha.sched l 64)).toArray)∧Below w.heap.size w w':=by
 go_enter Tryz.func217,Tryz.ntmps217
 go_wp2
 go_loopw [8] (fun i wr=>∃t:Nat,t≤16∧i=.int .i64 t∧Below w.heap.size w wr∧wr.heap[w.heap.size+1]?=some (.cells (u32s (Sha.sched l t)++qd (64-t) (Value.int .u32 0)).toArray 269 (0,0))∧wr.heap[w.heap.size]?=some (.cells (qd 64 (Value.int .u32 0)).toArray 269 (0,0))) (fun i _=>16-(intOf i).toNat)
 case atStart=>exact⟨0,by omega,rfl,((Below.refl _ _).alloc (qc _) _).alloc (by simp) _,X3 (by simp) _,QJ (JH _ _)⟩
 case round=>
  obtain⟨t,ht,rfl,hb,hg,hz⟩:=hrel
  have Y:=Lib.hid hz
  clear hz
  by_cases hlt:t<16
  ·have I:=Lib.hid hg
   have E:=Lib.hid hb
   have ad:=Lib.hid he
   clear hg hb he
   go_wp2
   refine U7 35 (by kernel_rfl) (by kernel_rfl) fun w2 hs=>?_
   simp only[qk,qu,qm,qv]
   have O:=E.out.trans (hs.below _)
   obtain⟨b',ac,e0,aV,c0⟩:=(ad.out.mono O).byte (i:=4*t) (by omega)
   obtain⟨b',ac,e1,_,c1⟩:=(ad.out.mono O).byte (i:=4*t+1) (by omega)
   obtain⟨b',ac,e2,_,c2⟩:=(ad.out.mono O).byte (i:=4*t+2) (by omega)
   obtain⟨b',ac,e3,_,c3⟩:=(ad.out.mono O).byte (i:=4*t+3) (by omega)
   simp only[Option.some.injEq,Addr.mk.injEq,and_true]at e0 e1 e2 e3
   obtain⟨rfl,rfl⟩:=e0
   obtain⟨rfl,rfl⟩:=e1
   obtain⟨rfl,rfl⟩:=e2
   obtain⟨rfl,rfl⟩:=e3
   have U:=Lib.hid (hs.at I.out)
   have aj:=Lib.hid (hs.at Y.out)
   clear hs E
   have ay:=Lib.hid O
   clear O
   obtain⟨a0,e0⟩:∃a:Nat,a=(l.getD (4*t) 0).toNat:=⟨_,rfl⟩
   obtain⟨a1,e1⟩:∃a:Nat,a=(l.getD (4*t+1) 0).toNat:=⟨_,rfl⟩
   obtain⟨a2,e2⟩:∃a:Nat,a=(l.getD (4*t+2) 0).toNat:=⟨_,rfl⟩
   obtain⟨a3,e3⟩:∃a:Nat,a=(l.getD (4*t+3) 0).toNat:=⟨_,rfl⟩
   rw[←e0]at c0
   rw[←e1]at c1
   rw[←e2]at c2
   rw[←e3]at c3
   have hw:Hid (((Sha.beWord l t:Nat):Int)=bits BinOp.or IntKind.u32 (bits BinOp.or IntKind.u32 (bits BinOp.or IntKind.u32 ((a0:Int)%4294967296*16777216%4294967296) ((a1:Int)%4294967296*65536%4294967296)) ((a2:Int)%4294967296*256%4294967296)) ((a3:Int)%4294967296)):=by
    rw[be_bits a0 a1 a2 a3 (by rw[e0];exact qH _) (by rw[e1];exact qH _) (by rw[e2];exact qH _) (by rw[e3];exact qH _),e0,e1,e2,e3]
    rfl
   clear e0 e1 e2 e3
   obtain⟨x0,y0,z0⟩:=idx (4*(t:Int)) (4*t) (by omega) (by omega)
   obtain⟨x1,y1,z1⟩:=idx (4*(t:Int)+1) (4*t+1) (by omega) (by omega)
   obtain⟨x2,y2,z2⟩:=idx (4*(t:Int)+2) (4*t+2) (by omega) (by omega)
   obtain⟨x3,y3,z3⟩:=idx (4*(t:Int)+3) (4*t+3) (by omega) (by omega)
   have l0:4*(t:Int)<64:=by omega
   have l1:4*(t:Int)+1<64:=by omega
   have l2:4*(t:Int)+2<64:=by omega
   have l3:4*(t:Int)+3<64:=by omega
   have l4:(t:Int)<64:=by omega
   have fz:=Jh U.out t
   have cz:w2.cell? ⟨w.heap.size+1,t,none⟩=some (.int .u32 0):=by
    rw[Ja U.out]
    have e:(u32s (Sha.sched l t)).length=t:=by simp[u32s,Sha.sched_length]
    rw[qi,qw (by omega),e,List.getElem?_replicate,if_pos (by omega)]
   repeat still_step
   refine wpStill_nil ?_
   go_wp2
   go_roundw
   case rel=>
    refine⟨t+1,by omega,by go_num,ay.out.setCell (by simp) _,?_,by rw[JM (by simp)];exact aj.out⟩
    rw[heap_setCell U.out,fill_set _ _ _ _ _ (by simp[u32s,Sha.sched_length]) (by omega),←hw.out,←u32s_sched,if_pos hlt]
   case measure=>simp[intOf];omega
  ·have a7:t=16:=by omega
   rw[a7]at hg
   clear a7
   have I:=Lib.hid hg
   have E:=Lib.hid hb
   clear hg hb he
   go_wp2
   go_loopw [5] (fun i wr=>∃t:Nat,16≤t∧t≤64∧i=.int .i64 t∧Below w.heap.size w wr∧wr.heap[w.heap.size+1]?=some (.cells (u32s (Sha.sched l t)++qd (64-t) (Value.int .u32 0)).toArray 269 (0,0))∧wr.heap[w.heap.size]?=some (.cells (qd 64 (Value.int .u32 0)).toArray 269 (0,0))) (fun i _=>64-(intOf i).toNat)
   case atStart=>exact⟨16,by omega,by omega,rfl,E.out,I.out,Y.out⟩
   case round=>
    clear Y
    obtain⟨t,b9,ba,rfl,hb,hg,hz⟩:=hrel
    have Y:=Lib.hid hz
    clear I E hz
    by_cases hlt:t<64
    ·have aa:∀k,k<t→wr.cell? ⟨w.heap.size+1,k,none⟩=some (.int .u32 ((Sha.sched l t).getD k 0:Nat)):=by
      intro k hk
      rw[Ja hg]
      have e:(u32s (Sha.sched l t)).length=t:=by simp[u32s,Sha.sched_length]
      rw[qi,List.getElem?_append_left (by omega)]
      have:k<(Sha.sched l t).length:=by rw[Sha.sched_length];omega
      simp[u32s,this]
     have ap:=aa (t-15) (by omega)
     have c2:=aa (t-2) (by omega)
     have ah:=aa (t-16) (by omega)
     have c7:=aa (t-7) (by omega)
     have ai:=Sha.sched_lt l (t-15) t
     have f2:=Sha.sched_lt l (t-2) t
     have aw:=Sha.sched_lt l (t-16) t
     have f7:=Sha.sched_lt l (t-7) t
     obtain⟨aA,af⟩:∃a:Nat,a=(Sha.sched l t).getD (t-15) 0:=⟨_,rfl⟩
     obtain⟨X2,e2⟩:∃a:Nat,a=(Sha.sched l t).getD (t-2) 0:=⟨_,rfl⟩
     obtain⟨aB,a7⟩:∃a:Nat,a=(Sha.sched l t).getD (t-16) 0:=⟨_,rfl⟩
     obtain⟨X7,e7⟩:∃a:Nat,a=(Sha.sched l t).getD (t-7) 0:=⟨_,rfl⟩
     rw[←af]at ap ai
     rw[←e2]at c2 f2
     rw[←a7]at ah aw
     rw[←e7]at c7 f7
     have hw:Hid (Sha.nextW (Sha.sched l t) t=(aB+Sha.s0 aA+X7+Sha.s1 X2)%4294967296):=by simp only[Hid,Sha.nextW,af,e2,a7,e7]
     clear af e2 a7 e7 aa
     have I:=Lib.hid hg
     have E:=Lib.hid hb
     clear hg hb
     obtain⟨b7,aY,aU⟩:=idx ((t:Int)-15) (t-15) (by omega) (by omega)
     obtain⟨x2,y2,z2⟩:=idx ((t:Int)-2) (t-2) (by omega) (by omega)
     obtain⟨aN,aW,aS⟩:=idx ((t:Int)-16) (t-16) (by omega) (by omega)
     obtain⟨x7,y7,z7⟩:=idx ((t:Int)-7) (t-7) (by omega) (by omega)
     have aK:(t:Int)-15<64:=by omega
     have l2:(t:Int)-2<64:=by omega
     have b6:(t:Int)-16<64:=by omega
     have l7:(t:Int)-7<64:=by omega
     have l0:(t:Int)<64:=by omega
     have aT:(16:Int)≤t:=by omega
     have m7:(7:Int)≤t:=by omega
     go_wp2
     go_quiet ((go_at_call 218;exact Calls.quiet_of (turn_i _ _ ai (by decide) (by decide) _)))
     go_wp2
     go_quiet ((go_at_call 218;exact quiet_add (turn_i _ _ f2 (by decide) (by decide) _)))
     go_wp2
     refine U7 15 (by kernel_rfl) (by kernel_rfl) fun w2 hs=>?_
     simp only[qk,qu,qm,qv]
     have a6:=(Same.drewN wr _).trans ((Same.drewN _ _).trans hs)
     have O:=Lib.hid (E.out.trans (a6.below _))
     have U:=Lib.hid (a6.at I.out)
     have aj:=Lib.hid (a6.at Y.out)
     replace ah:=a6.cell ah
     replace c7:=a6.cell c7
     have fz:=Jh U.out t
     have cz:w2.cell? ⟨w.heap.size+1,t,none⟩=some (.int .u32 0):=by
      rw[Ja U.out]
      have e:(u32s (Sha.sched l t)).length=t:=by simp[u32s,Sha.sched_length]
      rw[qi,qw (by omega),e,List.getElem?_replicate,if_pos (by omega)]
     clear hs a6 ap c2 I E
     repeat still_step
     refine wpStill_nil ?_
     go_wp2
     go_roundw
     case rel=>
      refine⟨t+1,by omega,by omega,by go_num,O.out.setCell (by simp) _,?_,by rw[JM (by simp)];exact aj.out⟩
      rw[heap_setCell U.out,fill_set _ _ _ _ _ (by simp[u32s,Sha.sched_length]) (by omega),←u32s_sched,if_neg (by omega),hw.out,←next_bits _ _ _ _ ai f2]
     case measure=>simp[intOf];omega
    ·have aq:t=64:=by omega
     rw[aq,Nat.sub_self,List.replicate_zero,qy]at hg
     have an:(u32s (Sha.sched l 64)).length=64:=by simp[u32s,Sha.sched_length]
     have ae:((u32s (Sha.sched l 64)).toArray.all (·.oneCell'))=true:=by simp[u32s,Value.oneCell']
     generalize hC:(u32s (Sha.sched l 64)).toArray=C at*
     have ar:C.size=64:=by rw[←hC];simpa using an
     have av:=Lib.hid hC
     have Z:=Lib.hid ar
     have ag:=Lib.hid ae
     have I:=Lib.hid hg
     have E:=Lib.hid hb
     clear hg hb hC ar ae aq an
     go_wp2_with (refine wpList_load_row rfl 269 _ rfl (w.heap.size+1) rfl 269 C (0,0) _ I.out qI rfl (by rw[Z.out];kernel_rfl) ?_;go_must (refine wpList_store_row rfl 269 _ _ rfl w.heap.size C rfl rfl 269 (qd 64 (Value.int .u32 0)).toArray Y.out ?s1 ?s2 ag.out ?_))
     case s1=>rw[Z.out];kernel_rfl
     case s2=>rw[Z.out];rfl
     have hW:=setRow_heap wr w.heap.size (qd 64 (Value.int .u32 0)).toArray C 269 (0,0) Y.out
     have hB:=below_setRow E.out (qc w.heap.size) C
     generalize wr.setRow w.heap.size C=wz at*
     refine bodyPost_ret (v:=.agg C) ?r ?d ?fin
     case fin=>exact⟨by rw[av.out],hB⟩
     case d=>rfl
     case r=>
      refine results_cell_row Tryz.results217 _ _ w.heap.size 269 C (0,0) _ ?_ hW qI rfl ?_
      ·rfl
      ·rw[Z.out];kernel_rfl
def kc:List Value:=[.int .u32 1116352408,.int .u32 1899447441,.int .u32 3049323471,.int .u32 3921009573,.int .u32 961987163,.int .u32 1508970993,.int .u32 2453635748,.int .u32 2870763221,.int .u32 3624381080,.int .u32 310598401,.int .u32 607225278,.int .u32 1426881987,.int .u32 1925078388,.int .u32 2162078206,.int .u32 2614888103,.int .u32 3248222580,.int .u32 3835390401,.int .u32 4022224774,.int .u32 264347078,.int .u32 604807628,.int .u32 770255983,.int .u32 1249150122,.int .u32 1555081692,.int .u32 1996064986,.int .u32 2554220882,.int .u32 2821834349,.int .u32 2952996808,.int .u32 3210313671,.int .u32 3336571891,.int .u32 3584528711,.int .u32 113926993,.int .u32 338241895,.int .u32 666307205,.int .u32 773529912,.int .u32 1294757372,.int .u32 1396182291,.int .u32 1695183700,.int .u32 1986661051,.int .u32 2177026350,.int .u32 2456956037,.int .u32 2730485921,.int .u32 2820302411,.int .u32 3259730800,.int .u32 3345764771,.int .u32 3516065817,.int .u32 3600352804,.int .u32 4094571909,.int .u32 275423344,.int .u32 430227734,.int .u32 506948616,.int .u32 659060556,.int .u32 883997877,.int .u32 958139571,.int .u32 1322822218,.int .u32 1537002063,.int .u32 1747873779,.int .u32 1955562222,.int .u32 2024104815,.int .u32 2227730452,.int .u32 2361852424,.int .u32 2428436474,.int .u32 2756734187,.int .u32 3204031479,.int .u32 3329325298]
theorem kc_eq:kc=Sha.K.map fun(n:Nat)=>Value.int .u32 n:=rfl
theorem kc_one:(kc.toArray.all (·.oneCell'))=true:=by simp[kc_eq,Value.oneCell']
theorem kc_get(i:Nat)(hi:i<64):kc.toArray[i]?=some (.int .u32 (Sha.K.getD i 0:Nat)):=by
 have:i<Sha.K.length:=by simpa[Sha.K]using hi
 simp only[kc_eq,qi,List.getElem?_map,List.getD,qo this]
 rfl
theorem round_any(i:Nat)(hi:i<64)(w:World):
 Calls qf 219 #[.int .i64 i] w fun e w'=>e=.returned (.int .u32 (Sha.K.getD i 0))∧Below w.heap.size w w':=by
 have O:=kc_get i hi
 obtain⟨k,E⟩:∃k,k=Sha.K.getD i 0:=⟨_,rfl⟩
 rw[←E]at O ⊢
 have Z:=Lib.hid O
 have Y:(i:Int)<64:=by omega
 clear E O
 go_enter Tryz.func219,Tryz.ntmps219
 go_wp2_with (refine wpList_store_new rfl 269 _ _ rfl kc.toArray rfl rfl (by kernel_rfl) (by rfl) kc_one ?_;intro wz U hB hS;have I:=Lib.hid hB;have hc:=Ja U i;rw[Z.out]at hc;clear hB U hS)
 go_ret
 exact⟨rfl,I.out⟩
def w8c(v:Sha.W8):Array Value:=#[.int .u32 v.a,.int .u32 v.b,.int .u32 v.c,.int .u32 v.d,.int .u32 v.e,.int .u32 v.f,.int .u32 v.g,.int .u32 v.h]
theorem blend_set(A B:List Value)(t:Nat)(h:A.length=B.length)(v:Value)(hv:A[t]?=some v):(A.take t++B.drop t).toArray.setIfInBounds t v=(A.take (t+1)++B.drop (t+1)).toArray:=by
 obtain⟨E,hv⟩:=List.getElem?_eq_some_iff.1 hv
 apply Array.ext'
 rw[Array.toList_setIfInBounds]
 rw[List.take_succ_eq_append_getElem E,hv,List.drop_eq_getElem_cons (show t<B.length by omega)]
 have e:(A.take t).length=t:=by simp;omega
 show List.set (A.take t++B[t]::B.drop (t+1)) t v=A.take t++[v]++B.drop (t+1)
 simp only[List.set_append,e,Nat.lt_irrefl, ↓reduceIte,Nat.sub_self,List.set_cons_zero,List.append_assoc,List.singleton_append]
theorem blend_get(A B:List Value)(t:Nat)(h:A.length=B.length)(ht:t<A.length):(A.take t++B.drop t).toArray[t]?=B[t]?:=by
 have e:(A.take t).length=t:=by simp;omega
 rw[qi,qw (by omega),e,Nat.sub_self,qJ]
 rfl
def w8l(v:Sha.W8):List Value:=[.int .u32 v.a,.int .u32 v.b,.int .u32 v.c,.int .u32 v.d,.int .u32 v.e,.int .u32 v.f,.int .u32 v.g,.int .u32 v.h]
theorem w8l_plus(x y:Sha.W8)(t:Nat)(ht:t<8):∃a b:Nat,(w8l x)[t]?=some (.int .u32 a)∧(w8l y)[t]?=some (.int .u32 b)∧(w8l (x.plus y))[t]?=some (.int .u32 (((a:Int)+b)%4294967296)):=by
 have:t=0∨t=1∨t=2∨t=3∨t=4∨t=5∨t=6∨t=7:=by omega
 rcases this with rfl|rfl|rfl|rfl|rfl|rfl|rfl|rfl<;>exact⟨_,_,rfl,rfl,by simp[w8l,Sha.W8.plus]⟩
theorem run_index_agg{P:Program}{k:IntKind}(t e:TypeId)(n:Nat)(he:P.underlying e=some (.int k))(hu:P.underlying t=some (.array n e))(hs:(P.info? e).map (·.size)=some 1)(C:Array Value)(hn:C.size=n)(i:Nat)(v:Value)(hv:C[i]?=some v)(w:World):
 (Instr.index t (.agg C) (.int .i64 i)).run P w=.ok v w:=by
 have hi:i<C.size:=(Array.getElem?_eq_some_iff.1 hv).1
 obtain⟨U,E,I⟩:=Option.map_eq_some_iff.1 hs
 have O:(sizeOf e).run P w=.ok 1 w:=by simp[sizeOf,typeInfo,E,I]
 have h2:(isAgg e).run P w=.ok false w:=by
  unfold isAgg
  rw[Sem.run_bind,run_underlying he w]
  simp
 simp[Instr.index,asIntOf,run_underlying hu,O,show i<n by omega,part,h2,hv]
theorem turn_pure(x:Nat)(b:Int)(hx:x<4294967296)(h0:0≤b)(hb:b<32)(w:World):
 Calls qf 218 #[.int .u32 x,.int .i64 b] w fun e w'=>e=.returned (.int .u32 (Sha.rotr x b.toNat))∧Below w.heap.size w w':=
 (turn_i x b hx h0 hb w).mono fun _ _ ⟨he,_,hk⟩=>⟨he,by rw[hk];exact(Same.drewN w _).below _⟩
theorem ch_bits(e f g:Nat)(he:e<4294967296)(hf:f<4294967296)(hg:g<4294967296):
 bits BinOp.xor IntKind.u32 (bits BinOp.and IntKind.u32 (e:Int) (f:Int)) (bits BinOp.and IntKind.u32 (bits BinOp.xor IntKind.u32 (if IntKind.u32.signed=true then-1 else IntKind.u32.max) (e:Int)) (g:Int))=((Sha.ch e f g:Nat):Int):=by
 have O:bits BinOp.xor IntKind.u32 (if IntKind.u32.signed=true then-1 else IntKind.u32.max) (e:Int)=((4294967295-e:Nat):Int):=by
  have Y:(if IntKind.u32.signed=true then-1 else IntKind.u32.max)=((4294967295:Nat):Int):=by decide
  rw[Y,u32_xor_nat _ _ (by decide) he]
  congr 1
  have U:=BitVec.toNat_not (x:=BitVec.ofNat 32 e)
  have E:(BitVec.allOnes 32^^^BitVec.ofNat 32 e).toNat=4294967295^^^e:=by
   rw[BitVec.toNat_xor];simp[BitVec.toNat_allOnes,Nat.mod_eq_of_lt he]
  have I:BitVec.allOnes 32^^^BitVec.ofNat 32 e= ~~~ (BitVec.ofNat 32 e):=BitVec.allOnes_xor
  rw[←E,I,U]
  simp[Nat.mod_eq_of_lt he]
 rw[O,u32_and_nat _ _ he hf,u32_and_nat _ _ (by omega) hg,u32_xor_nat _ _ (Sha.and_lt he) (Sha.and_lt (by omega))]
 rfl
theorem one_bits(e f g h k w:Nat)(he:e<4294967296)(hf:f<4294967296)(hg:g<4294967296):
 IntKind.u32.wrap (IntKind.u32.wrap (IntKind.u32.wrap (IntKind.u32.wrap ((h:Int)+
  bits BinOp.xor IntKind.u32 (bits BinOp.xor IntKind.u32 ((Sha.rotr e 6:Nat):Int) ((Sha.rotr e 11:Nat):Int)) ((Sha.rotr e 25:Nat):Int))+
  bits BinOp.xor IntKind.u32 (bits BinOp.and IntKind.u32 (e:Int) (f:Int)) (bits BinOp.and IntKind.u32 (bits BinOp.xor IntKind.u32 (if IntKind.u32.signed=true then-1 else IntKind.u32.max) (e:Int)) (g:Int)))+k)+w)
  =(((h+Sha.big1 e+Sha.ch e f g+k+w)%4294967296:Nat):Int):=by
 rw[ch_bits e f g he hf hg,Uv _ _ _ (Sha.rotr_lt he) (Sha.rotr_lt he) (Sha.rotr_lt he)]
 have E:(Sha.rotr e 6^^^Sha.rotr e 11)^^^Sha.rotr e 25=Sha.big1 e:=rfl
 rw[E]
 simp only[IntKind.wrap_u32]
 omega
theorem two_bits(a b c:Nat)(ha:a<4294967296)(hb:b<4294967296)(hc:c<4294967296):
 IntKind.u32.wrap (bits BinOp.xor IntKind.u32 (bits BinOp.xor IntKind.u32 ((Sha.rotr a 2:Nat):Int) ((Sha.rotr a 13:Nat):Int)) ((Sha.rotr a 22:Nat):Int)+
  bits BinOp.xor IntKind.u32 (bits BinOp.xor IntKind.u32 (bits BinOp.and IntKind.u32 (a:Int) (b:Int)) (bits BinOp.and IntKind.u32 (a:Int) (c:Int))) (bits BinOp.and IntKind.u32 (b:Int) (c:Int)))
  =(((Sha.big0 a+Sha.maj a b c)%4294967296:Nat):Int):=by
 rw[u32_and_nat _ _ ha hb,u32_and_nat _ _ ha hc,u32_and_nat _ _ hb hc,Uv _ _ _ (Sha.and_lt ha) (Sha.and_lt ha) (Sha.and_lt hb),Uv _ _ _ (Sha.rotr_lt ha) (Sha.rotr_lt ha) (Sha.rotr_lt ha)]
 have I:(Sha.rotr a 2^^^Sha.rotr a 13)^^^Sha.rotr a 22=Sha.big0 a:=rfl
 have E:((a&&&b)^^^(a&&&c))^^^(b&&&c)=Sha.maj a b c:=rfl
 rw[I,E]
 simp only[IntKind.wrap_u32]
 omega
theorem mix_any(st:Sha.W8)(hf:st.Fit)(b off cap:Nat)(l:List UInt8)(hl:l.length=64)(w:World)(he:ElemsAt ZU w (some ⟨b,off,none⟩) cap l):
 Calls qf 184 #[.agg (w8c st),.slice (some ⟨b,off,none⟩) 64 cap] w fun e w'=>e=.returned (.agg (w8c (Sha.mix st l)))∧Below w.heap.size w w':=by
 unfold w8c
 go_enter Tryz.func184,Tryz.ntmps184
 go_wp2_with fail
 refine(words_any b off cap l hl _ (he.mono (by repeat(first|exact Below.refl _ _|refine Below.alloc ?_ (by simp<;>omega) _)))).mono ?_
 rintro e w1 ⟨rfl,ae⟩
 have aJ:Below w.heap.size w w1:=Below.trans (by repeat(first|exact Below.refl _ _|refine Below.alloc ?_ (by simp<;>omega) _)) (ae.mono (by simp;omega))
 have g0:w1.heap[w.heap.size]?=some (.cells (w8c st) 239 (0,0)):=JJ (QJ (QJ (JH _ _))) ae
 have g1:w1.heap[w.heap.size+1]?=some (.cells (w8c ⟨0,0,0,0,0,0,0,0⟩) 239 (0,0)):=JJ (QJ (X3 (by simp) _)) ae
 have Z:w1.heap[w.heap.size+2]?=some (.cells (w8c st) 239 (0,0)):=JJ (X3 (by simp) _) ae
 have G0:=Lib.hid g0
 have G1:=Lib.hid g1
 have G2:=Lib.hid Z
 have aK:=Lib.hid aJ
 clear g0 g1 Z ae aJ he
 generalize hC:(u32s (Sha.sched l 64)).toArray=C
 have ar:∀t,t<64→C[t]?=some (Value.int .u32 ((Sha.sched l 64).getD t 0:Nat)):=by
  intro t ht
  rw[←hC]
  have:t<(Sha.sched l 64).length:=by rw[Sha.sched_length];omega
  simp[u32s,this]
 have aD:C.size=64:=by rw[←hC];simp[u32s,Sha.sched_length]
 have aR:=Lib.hid aD
 clear hC aD
 go_wp2
 go_loopw [16] (fun i wr=>∃t:Nat,t≤64∧i=.int .i64 t∧Below w.heap.size w wr∧wr.heap[w.heap.size]?=some (.cells (w8c st) 239 (0,0))∧wr.heap[w.heap.size+1]?=some (.cells (w8c ⟨0,0,0,0,0,0,0,0⟩) 239 (0,0))∧
  wr.heap[w.heap.size+2]?=some (.cells (w8c (Sha.rounds st (Sha.sched l 64) t)) 239 (0,0))) (fun i _=>64-(intOf i).toNat)
 case atStart=>exact⟨0,by omega,rfl,aK.out,G0.out,G1.out,G2.out⟩
 case round=>
  clear G0 G1 G2 aK
  obtain⟨t,ht,rfl,hB,g0,g1,Z⟩:=hrel
  by_cases hlt:t<64
  ·have aA:=run_index_agg (P:=qf) 269 222 64 Tryz.underlying222 qI (by kernel_rfl) C aR.out t _ (ar t hlt)
   have ay:=Sha.rounds_fit hf (Sha.sched l 64) t
   have hW:=Sha.sched_lt l t 64
   have U:Hid (Sha.rounds st (Sha.sched l 64) (t+1)=Sha.turn (Sha.rounds st (Sha.sched l 64) t) (Sha.K.getD t 0) ((Sha.sched l 64).getD t 0)):=rfl
   obtain⟨v,hv⟩:∃v,v=Sha.rounds st (Sha.sched l 64) t:=⟨_,rfl⟩
   obtain⟨W,aH⟩:∃W,W=(Sha.sched l 64).getD t 0:=⟨_,rfl⟩
   obtain⟨Kt,aq⟩:∃Kt,Kt=Sha.K.getD t 0:=⟨_,rfl⟩
   have bt:Kt<4294967296:=by rw[aq];exact Sha.K_lt t
   have Y:=round_any t hlt
   rw[←aq]at Y U
   rw[←aH]at aA hW U
   rw[←hv]at Z ay U
   obtain⟨va,vb,vc,vd,ve,vf,vg,vh⟩:=v
   obtain⟨fa,fb,fc,fd,fe,ff,fg,fh⟩:=ay
   simp only at fa fb fc fd fe ff fg fh
   have HR:=Lib.hid Y
   clear hv aH aq ar Y
   have G0:=Lib.hid g0
   have G1:=Lib.hid g1
   have c0:=Ja Z 0
   have c1:=Ja Z 1
   have c2:=Ja Z 2
   have c4:=Ja Z 4
   have c5:=Ja Z 5
   have c6:=Ja Z 6
   have c7:=Ja Z 7
   simp[w8c]at c0 c1 c2 c4 c5 c6 c7
   have G2:=Lib.hid Z
   have HB:=Lib.hid hB
   clear g0 g1 Z hB
   go_wp2
   go_quiet (fail)
   go_wp2
   have ag:=QP G2.out
   have S1:=Same.drewN wr nq
   generalize wr.drewN nq=w2 at*
   refine region_pure (by kernel_rfl) (by kernel_rfl) fun I ne f hfb hback=>?_
   have d5:∀i,(f i).cell? ⟨w.heap.size+2,5,none⟩=some (.int .u32 vf):=fun i=>by rw[(hfb i).cell (by rw[S1.size];exact ag)];exact S1.cell c5
   have d6:∀i,(f i).cell? ⟨w.heap.size+2,6,none⟩=some (.int .u32 vg):=fun i=>by rw[(hfb i).cell (by rw[S1.size];exact ag)];exact S1.cell c6
   have d7:∀i,(f i).cell? ⟨w.heap.size+2,7,none⟩=some (.int .u32 vh):=fun i=>by rw[(hfb i).cell (by rw[S1.size];exact ag)];exact S1.cell c7
   have E:=Lib.hid hfb
   clear hfb c0 c1 c2 c4 c5 c6 c7
   repeat(quiet_step ((first|(go_at_call 218;exact pure_of E.out hback (turn_pure _ _ fe (by decide) (by decide) _))|(go_at_call 219;exact pure_of E.out hback (HR.out _)))))
   refine wpQuiet_nil ?_
   intro i
   have O:=E.out i
   generalize f i=w3 at*
   rw[one_bits ve vf vg vh Kt W fe ff fg]
   obtain⟨t1,au⟩:∃t1,t1=(vh+Sha.big1 ve+Sha.ch ve vf vg+Kt+W)%4294967296:=⟨_,rfl⟩
   rw[←au]
   have aB:=Lib.hid au
   clear au
   have H0:=Lib.hid (JJ (S1.at G0.out) O)
   have H1:=Lib.hid (JJ (S1.at G1.out) O)
   have H2:=Lib.hid (JJ (S1.at G2.out) O)
   have ab:=Lib.hid (HB.out.trans ((S1.below _).trans (O.mono (by rw[S1.size];exact HB.out.size))))
   clear G0 G1 G2 HB ag S1 O hback E HR d5 d6 d7
   go_wp2
   refine region_pure (by kernel_rfl) (by kernel_rfl) fun I ne f hfb hback=>?_
   have d1:∀i,(f i).cell? ⟨w.heap.size+2,1,none⟩=some (.int .u32 vb):=fun i=>by rw[(hfb i).cell (QP H2.out),Ja H2.out];rfl
   have d2:∀i,(f i).cell? ⟨w.heap.size+2,2,none⟩=some (.int .u32 vc):=fun i=>by rw[(hfb i).cell (QP H2.out),Ja H2.out];rfl
   have E:=Lib.hid hfb
   clear hfb
   repeat(quiet_step ((go_at_call 218;exact pure_of E.out hback (turn_pure _ _ fa (by decide) (by decide) _))))
   refine wpQuiet_nil ?_
   intro i
   have O:=E.out i
   generalize f i=w4 at*
   rw[two_bits va vb vc fa fb fc]
   obtain⟨t2,av⟩:∃t2,t2=(Sha.big0 va+Sha.maj va vb vc)%4294967296:=⟨_,rfl⟩
   rw[←av]
   have aG:=Lib.hid av
   clear av
   have G0:=Lib.hid (JJ H0.out O)
   have G1:=Lib.hid (JJ H1.out O)
   have G2:=Lib.hid (JJ H2.out O)
   have HB:=Lib.hid (ab.out.trans (O.mono ab.out.size))
   clear H0 H1 H2 ab O hback E d1 d2
   go_wp2
   refine U7 2 (by kernel_rfl) (by kernel_rfl) fun w5 hs=>?_
   simp only[qk,qu,qm,qv]
   repeat still_step
   refine wpStill_nil ?_
   have H0:=Lib.hid (hs.at G0.out)
   have H1:=Lib.hid (hs.at G1.out)
   have H2:=hs.at G2.out
   have ab:=Lib.hid (HB.out.trans (hs.below _))
   clear G0 G1 G2 HB hs
   refine wpList_copy_splice rfl _ _ 273 273 rfl 222 Tryz.underlying273 (by kernel_rfl) (some ⟨w.heap.size+2,1,none⟩) (some ⟨w.heap.size+2,0,none⟩) 7 7 7 8 rfl rfl
    (w.heap.size+2) 1 [.int .u32 va,.int .u32 vb,.int .u32 vc,.int .u32 vd,.int .u32 ve,.int .u32 vf,.int .u32 vg,.int .u32 vh] 239 H2 [.int .u32 va,.int .u32 vb,.int .u32 vc,.int .u32 vd,.int .u32 ve,.int .u32 vf,.int .u32 vg] rfl ?k1 (by simp) ?k2 (w.heap.size+2) w5 (Below.refl _ _) (qc _) ?_
   case k1=>
    intro _
    refine⟨rfl,_,rfl,fun j u hj=>?_⟩
    rw[cells_add H2]
    have e7:[Value.int .u32 va,.int .u32 vb,.int .u32 vc,.int .u32 vd,.int .u32 ve,.int .u32 vf,.int .u32 vg]=([Value.int .u32 va,.int .u32 vb,.int .u32 vc,.int .u32 vd,.int .u32 ve,.int .u32 vf,.int .u32 vg,.int .u32 vh]).take 7:=rfl
    rw[e7,qA]at hj
    split at hj
    ·show(#[_,_,_,_,_,_,_,_]:Array Value)[j]?=_
     simpa using hj
    ·cases hj
   case k2=>simp[Value.oneCell']
   intro w6 az ah
   have g6:w6.heap[w.heap.size+2]?=some (.cells #[.int .u32 va,.int .u32 va,.int .u32 vb,.int .u32 vc,.int .u32 vd,.int .u32 ve,.int .u32 vf,.int .u32 vg] 239 (0,0)):=az.out
   have G0:=Lib.hid (show w6.heap[w.heap.size]?=some (.cells (w8c st) 239 (0,0)) by rw[ah.block _ (by omega)];exact H0.out)
   have G1:=Lib.hid (show w6.heap[w.heap.size+1]?=some (.cells (w8c ⟨0,0,0,0,0,0,0,0⟩) 239 (0,0)) by rw[ah.block _ (by omega)];exact H1.out)
   have HB:=Lib.hid (ab.out.trans (ah.mono (by omega)))
   clear H0 H1 H2 ab az ah
   have c4:=Ja g6 4
   have z4:=Jh g6 4
   have c0:=Ja g6 0
   have z0:=Jh g6 0
   simp at c4 c0
   have G2:=Lib.hid g6
   clear g6
   go_wp2
   go_roundw
   case rel=>
    refine⟨t+1,by omega,by go_num,(HB.out.setCell (by simp<;>omega) _).setCell (by simp<;>omega) _,?_,?_,?_⟩
    ·rw[JM (by simp<;>omega),JM (by simp<;>omega)];exact G0.out
    ·rw[JM (by simp<;>omega),JM (by simp<;>omega)];exact G1.out
    ·rw[heap_setCell (heap_setCell G2.out 4 _) 0 _,U.out]
     simp only[w8c,Sha.turn,←aB.out,←aG.out]
     simp[aB.out,aG.out]
   case measure=>simp[intOf];omega
  ·have aE:t=64:=by omega
   have aI:Hid (Sha.mix st l=st.plus (Sha.rounds st (Sha.sched l 64) t)):=by rw[aE];rfl
   have G0:=Lib.hid g0
   have G1:=Lib.hid g1
   have G2:=Lib.hid Z
   have HB:=Lib.hid hB
   generalize Sha.rounds st (Sha.sched l 64) t=v at*
   clear g0 g1 Z hB ar aE
   go_wp2
   go_loopw [88] (fun i wr=>∃u:Nat,u≤8∧i=.int .i64 u∧Below w.heap.size w wr∧wr.heap[w.heap.size]?=some (.cells ((w8l (st.plus v)).take u++(w8l st).drop u).toArray 239 (0,0))∧
    wr.heap[w.heap.size+1]?=some (.cells (w8c ⟨0,0,0,0,0,0,0,0⟩) 239 (0,0))∧wr.heap[w.heap.size+2]?=some (.cells (w8c v) 239 (0,0))) (fun i _=>8-(intOf i).toNat)
   case atStart=>exact⟨0,by omega,rfl,HB.out,G0.out,G1.out,G2.out⟩
   case round=>
    clear G0 G1 G2 HB
    obtain⟨u,hu,rfl,hB,g0,g1,Z⟩:=hrel
    have G0:=Lib.hid g0
    have G1:=Lib.hid g1
    have G2:=Lib.hid Z
    have HB:=Lib.hid hB
    clear g0 g1 Z hB
    by_cases hlu:u<8
    ·obtain⟨xa,xb,e1,e2,e3⟩:=w8l_plus st v u hlu
     have E1:=Lib.hid e1
     have E2:=Lib.hid e2
     have E3:=Lib.hid e3
     clear e1 e2 e3
     have l8:(u:Int)<8:=by omega
     go_wp2
     refine U7 8 (by kernel_rfl) (by kernel_rfl) fun w2 hs=>?_
     simp only[qk,qu,qm,qv]
     have H0:=Lib.hid (hs.at G0.out)
     have H1:=Lib.hid (hs.at G1.out)
     have H2:=Lib.hid (hs.at G2.out)
     have aW:=Lib.hid (HB.out.trans (hs.below _))
     have c0:w2.cell? ⟨w.heap.size,u,none⟩=some (.int .u32 xa):=by rw[Ja H0.out,blend_get (w8l (st.plus v)) (w8l st) u rfl (by simpa[w8l]using hlu)];exact E1.out
     have c2:w2.cell? ⟨w.heap.size+2,u,none⟩=some (.int .u32 xb):=by rw[Ja H2.out,←E2.out];show(w8l v).toArray[u]?=_;rw[qi]
     have z0:=Jh H0.out u
     clear hs G0 G1 G2 HB
     repeat still_step
     refine wpStill_nil ?_
     go_wp2
     go_roundw
     case rel=>
      refine⟨u+1,by omega,by go_num,aW.out.setCell (by simp) _,?_,?_,?_⟩
      ·rw[heap_setCell H0.out,blend_set (w8l (st.plus v)) (w8l st) u rfl _ E3.out]
      ·rw[JM (by simp)];exact H1.out
      ·rw[JM (by simp)];exact H2.out
     case measure=>simp[intOf];omega
    ·have e8:u=8:=by omega
     have g0:=G0.out
     rw[e8]at g0
     have aT:Hid (_=some (Obj.cells (w8c (st.plus v)) 239 (0,0))):=g0
     clear g0 G0 e8
     go_wp2_with (refine wpList_load_row rfl 239 _ rfl w.heap.size rfl 239 (w8c (st.plus v)) (0,0) _ aT.out qK rfl (by kernel_rfl) ?_;go_must (refine wpList_store_row rfl 239 _ _ rfl (w.heap.size+1) (w8c (st.plus v)) rfl rfl 239 (w8c ⟨0,0,0,0,0,0,0,0⟩) G1.out ?s1 ?s2 ?s3 ?_))
     case s1=>kernel_rfl
     case s2=>rfl
     case s3=>simp[w8c,Value.oneCell']
     have hW:=setRow_heap _ (w.heap.size+1) _ (w8c (st.plus v)) 239 (0,0) G1.out
     have aX:=below_setRow HB.out (Nat.le_succ w.heap.size) (w8c (st.plus v))
     generalize World.setRow _ (w.heap.size+1) (w8c (st.plus v))=wz at*
     refine bodyPost_ret (v:=.agg (w8c (st.plus v))) ?r ?d ?fin
     case fin=>exact⟨by rw[aI.out];rfl,aX⟩
     case d=>rfl
     case r=>
      refine results_cell_row Tryz.results184 _ _ (w.heap.size+1) 239 (w8c (st.plus v)) (0,0) _ ?_ hW qK rfl ?_
      ·rfl
      ·kernel_rfl
section
variable {P : Program} {md : Region.Mode} {ops : Array Oper} {C : World → Prop}
def wpAnyLQ(P:Program)(md:Region.Mode)(ops:Array Oper)(C:World→Prop)(n:Nat)(L:Array Bool→Act→Prop):Nat→Array Bool→Act→Prop
 |0,listed,a=>L listed a
 |f+1,listed,a=>
  Region.ready md ops listed≠ []∧∀i∈Region.ready md ops listed,i<n∧qOp P ops C i (wpAnyLQ P md ops C n L f (listed.setIfInBounds i true)) a
theorem wpAny_of_headQ{n g:Nat}{L:Array Bool→Act→Prop}{Q':Exit→Act→World→Prop}(hL:∀listed a w,C w→L listed a→wpAny P md ops Q' g listed a w):
 ∀(f:Nat)(listed:Array Bool)(a:Act)(w:World),C w→wpAnyLQ P md ops C n L f listed a→wpAny P md ops Q' (f+g) listed a w
 |0,listed,a,w,hw,h=>by rw[Nat.zero_add];exact hL _ _ _ hw h
 |f+1,listed,a,w,hw,h=>by
  rw[show f+1+g=(f+g)+1 by omega]
  exact⟨fun h0=>absurd h0 h.1,fun i hi=>wpOp_of_qOp hw (fun a' w' hw' h'=>wpAny_of_headQ hL f _ a' w' hw' h') (h.2 i hi).2⟩
theorem wpAnyLQ_first{n i:Nat}{oi:Oper}{v:Value}{L:Array Bool→Act→Prop}(hi:ops[i]?=some oi)(hsel:∀(j:Nat)(o:Oper) cs b,ops[j]?=some o→o.op≠ .select cs b)
 (hs:Region.sinkB md ops n=true) (hc:Region.chainB md ops n=true) (hn:n<ops.size) (hin:i<n)
 (hdone:∀listed a,L listed a→∀j∈Region.ready md ops listed,n≤j):
 ∀(f:Nat)(listed:Array Bool)(a:Act),HeadInv md ops n listed→
  (∀j oj,ops[j]?=some oj→j≠i→listed.getD j true=false→(∀e∈oj.after,Region.binds md e=true→e.on≠i)→oi.apart ops oj=true)→
  i∈Region.ready md ops listed→YieldsIn P ops C oi v a→
  wpAnyLQ P md ops C n L f (listed.setIfInBounds i true) (a.put oi.dst v)→wpAnyLQ P md ops C n L (f+1) listed a:=by
 intro f
 induction f with
 |zero=>
  intro listed a U _ Z hy H
  have E:=(mem_ready.1 Z).1
  refine⟨fun h=>(by rw[h]at Z;cases Z),fun j hj=>?_⟩
  have Y:j<n:=by
   rcases Nat.lt_or_ge j n with h|h
   ·exact h
   ·exact absurd hj (tail_waits hs hc hn U _ i rfl hin E j h)
  refine⟨Y,?_⟩
  by_cases hji:j=i
  ·subst hji;exact hy.qOp hi H
  ·have:=hdone _ _ H j (ready_mono hj hji)
   omega
 |succ f ih=>
  intro listed a U I Z hy H
  have E:=(mem_ready.1 Z).1
  refine⟨fun h=>(by rw[h]at Z;cases Z),fun j hj=>?_⟩
  have Y:j<n:=by
   rcases Nat.lt_or_ge j n with h|h
   ·exact h
   ·exact absurd hj (tail_waits hs hc hn U _ i rfl hin E j h)
  refine⟨Y,?_⟩
  by_cases hji:j=i
  ·subst hji;exact hy.qOp hi H
  ·have h1:=(H.2 j (ready_mono hj hji)).2
   obtain⟨a2,oj,a6,a7⟩:=mem_ready.1 hj
   have a8:∀e∈oj.after,Region.binds md e=true→e.on≠i:=fun e he hb heq=>by
    have h1:=a7 e he hb
    rw[heq,getD_both E]at h1
    cases h1
   have h2:=qOp_put a6 (I j oj a6 hji a2 a8) (fun cs b=>hsel i oi cs b hi) (fun cs b=>hsel j oj cs b a6) hy h1
   have O:∀k ok,ops[k]?=some ok→k≠i→(listed.setIfInBounds j true).getD k true=false→
    (∀e∈ok.after,Region.binds md e=true→e.on≠i)→oi.apart ops ok=true:=fun k ok hk hki E hno=>by
    refine I k ok hk hki ?_ hno
    by_cases hjk:j=k
    ·subst hjk;exact a2
    ·rw[getD_set_ne true hjk]at E;exact E
   refine qOp_mono (fun a' h3=>ih (listed.setIfInBounds j true) a' (U.set hj Y) O (ready_mono Z (Ne.symm hji)) h3.1 ?_) h2
   rw[Array.setIfInBounds_comm _ _ hji]
   exact h3.2
theorem wpAnyLQ_lex{n g:Nat}{Lq:Act→Prop}(hsel:Region.noSelect ops=true)(hs:Region.sinkB md ops n=true)(hc:Region.chainB md ops n=true)(hn:n<ops.size):
 ∀(l:List Oper)(k:Nat)(listed:Array Bool)(a:Act),(∀j,j<l.length→l[j]?=ops[k+j]?)→k+l.length=n→HeadInv md ops n listed→
 Region.lexHead md ops g l.length k listed=true→wpQuiet P ops C Lq l a→
 wpAnyLQ P md ops C n (fun listed' a'=>Region.seqB md ops g n listed'=true∧Lq a') l.length listed a
 | [],k,listed,a,_,hk,_,hB,h=>by
   have:k=n:=by simpa using hk
   subst this
   exact⟨by simpa[Region.lexHead]using hB,h⟩
 |o::l,k,listed,a,hl,hk,inv,hB,h=>by
  have h0:ops[k]?=some o:=by simpa using(hl 0 (by simp)).symm
  simp only[List.length_cons,Region.lexHead,Bool.and_eq_true]at hB
  obtain⟨⟨hr,hf⟩,hB'⟩:=hB
  have hkn:k<n:=by simp only[List.length_cons]at hk;omega
  have hr':k∈Region.ready md ops listed:=by simpa using hr
  have hst:qOp P ops C k (wpQuiet P ops C Lq l) a:=by unfold qOp;simp only[h0];exact h
  obtain⟨v,hy,hK⟩:=yieldsIn_of_qOp h0 hst
  exact wpAnyLQ_first h0 (Region.noSelect_spec hsel) hs hc hn hkn (fun listed' a' hL=>seqB_ready hL.1) l.length listed a inv (Region.free_spec h0 hf) hr' hy
   (wpAnyLQ_lex hsel hs hc hn l (k+1) _ _ (fun j hj=>by have:=hl (j+1) (by simp;omega);simpa[Nat.add_assoc,Nat.add_comm 1 j]using this) (by simp only[List.length_cons]at hk;omega) (inv.set hr' hkn) hB' hK)
theorem wp_region_quiet_tail{id:Nat}{Q:Exit→Act→World→Prop}{a:Act}{w:World}{l:List Oper}(n:Nat)(hm:P.follows .mixedOrders=true)(hB:Region.lexTailB .any l.toArray n=true)
 (hC:C { w with drawn:=w.drawn+1 })
 (h:wpQuiet P l.toArray C (fun a'=>∀w',C w'→wpList P l.toArray Q (l.drop n) a' w') (l.take n) a):(Code.region id l.toArray true).wp P Q a w:=by
 simp only[Region.lexTailB,Bool.and_eq_true,decide_eq_true_eq]at hB
 obtain⟨⟨⟨⟨I,hn⟩,hs⟩,hc⟩,U⟩:=hB
 have a6:n<l.length:=by simpa using hn
 have E:(l.take n).length=n:=by simp;omega
 have O:(l.drop n).length=l.toArray.size-n:=by simp
 have Y:HeadInv .any l.toArray n (Array.replicate l.toArray.size false):=
  ⟨by simp,fun j oj _ hl=>(by rw[getD_replicate_false]at hl;cases hl),fun t _ ht=>getD_in (by simpa using ht) (getD_replicate_false _ _)⟩
 have H:=wpAnyLQ_lex (md:=.any) (g:=l.toArray.size-n) I hs hc hn (l.take n) 0 _ a (fun j hj=>by
  have Z:j<n:=by rw[E]at hj;exact hj
  simp[Z]) (by simpa using E) Y (by rw[E];exact U) h
 refine wp_region_any hm ?_
 have:=wpAny_of_headQ (C:=C) (Q':=Q) (g:=l.toArray.size-n) (fun listed a' w' hw' hL=>by
  have:=wpAny_of_seq (md:=.any) (Q':=Q) (l.drop n) n listed a' w' (fun j=>by simp[qJ]) (by rw[O];exact hL.1) (hL.2 w' hw')
  rwa [O]at this) _ _ _ _ hC H
 rw[E,show n+(l.toArray.size-n)=l.toArray.size by omega]at this
 exact this
theorem UH{id:Nat}{Q:Exit→Act→World→Prop}{a:Act}{w:World}{l:List Oper}(n:Nat)(hm:P.follows .mixedOrders=true)(hB:Region.lexTailB .any l.toArray n=true)
 (h:∀(I:Type)(_:Nonempty I)(f:I→World),(∀i,Below w.heap.size w (f i))→Hid (∀w',Below w.heap.size w w'→∃j,w'=f j)→
  wpQuiet P l.toArray (fun w'=>∃i,w'=f i) (fun a'=>∀i,wpList P l.toArray Q (l.drop n) a' (f i)) (l.take n) a):(Code.region id l.toArray true).wp P Q a w:=by
 let I:={ w':World//Below w.heap.size w w' }
 have O:Nonempty I:=⟨⟨w,Below.refl _ _⟩⟩
 have E:=h I O (fun i=>i.val) (fun i=>i.property) (fun w' hw=>⟨⟨w',hw⟩,rfl⟩)
 refine wp_region_quiet_tail (C:=fun w'=>∃i:I,w'=i.val) n hm hB ⟨⟨_,(Below.refl _ w).drew⟩,rfl⟩ ?_
 have e:(fun a'=>∀i:I,wpList P l.toArray Q (l.drop n) a' i.val)=(fun a'=>∀w',(∃i:I,w'=i.val)→wpList P l.toArray Q (l.drop n) a' w'):=by
  funext a'
  apply propext
  constructor
  ·rintro hi w' ⟨i,rfl⟩;exact hi i
  ·intro hi i;exact hi _ ⟨i,rfl⟩
 rw[e]at E
 exact E
end
def JB(b:UInt8):Value:=.int .u8 b.toNat
def J5(l:List UInt8):List Value:=l.map JB
theorem byteV_one(b:UInt8):(JB b).oneCell'=true:=by simp[JB,Value.oneCell']
def str(l:List UInt8):ByteArray:=⟨l.toArray⟩
theorem str_data(l:List UInt8):(str l).data.toList=l:=rfl
theorem str_size(l:List UInt8):(str l).size=l.length:=by show l.toArray.size=_;simp
def XU(v:Sha.W8)(lv:Value)(n:Int):Array Value:=#[.int .u32 v.a,.int .u32 v.b,.int .u32 v.c,.int .u32 v.d,.int .u32 v.e,.int .u32 v.f,.int .u32 v.g,.int .u32 v.h,lv,.int .i64 n]
def HashAt(base:Nat)(w:World)(g:Nat)(m:List UInt8):Prop:=
 ∃lv,base≤g∧w.heap[g]?=some (.cells (XU (Sha.blocks Sha.start m) lv m.length) 241 (0,0))∧w.ownsRow base 5 1 lv (Sha.rest m).length (J5 (Sha.rest m))
theorem HashAt.below{base:Nat}{w w':World}{g:Nat}{m:List UInt8}(h:HashAt base w g m)(hb:Below w.heap.size w w'):HashAt base w' g m:=by
 obtain⟨O,I,h2,E⟩:=h
 exact⟨O,I,JJ h2 hb,Um E hb⟩
theorem XR:(qf.info? 5).map (fun i=>(i.zero,i.size,i.bytes))=some (some (.int .u8 0),1,1):=by kernel_rfl
theorem ElemsAt.setCell{α:Type}{c:α→Value}{w:World}{a:Option Addr}{cap:Nat}{xs:List α}(h:ElemsAt (Shape.flat 1 (fun x=>[c x]) (fun _=>rfl)) w a cap xs)(p:Addr)(hne:∀x,a=some x→x.block≠p.block)(u:Value):
 ElemsAt (Shape.flat 1 (fun x=>[c x]) (fun _=>rfl)) (w.setCell p u) a cap xs:=by
 rcases h with h|⟨b,E,rfl,I,hl,U,hc⟩
 ·exact .inl h
 ·refine .inr ⟨b,E,rfl,by simpa[World.setCell]using I,hl,U,fun i x hx=>?_⟩
  obtain⟨cs,O,h2⟩:=hc i x hx
  refine⟨cs,O,fun j v hj=>?_⟩
  have e:∀k,(w.setCell p u).cell? ⟨b,k,none⟩=w.cell? ⟨b,k,none⟩:=fun k=>World.cell?_of_block (JM (hne _ rfl) u)
  rw[e]
  exact h2 j v hj
theorem mix_lit(st:Sha.W8)(hf:st.Fit)(b off cap:Nat)(l:List UInt8)(hl:l.length=64)(w:World)(he:ElemsAt ZU w (some ⟨b,off,none⟩) cap l):
 Calls qf 184 #[.agg #[.int .u32 st.a,.int .u32 st.b,.int .u32 st.c,.int .u32 st.d,.int .u32 st.e,.int .u32 st.f,.int .u32 st.g,.int .u32 st.h],.slice (some ⟨b,off,none⟩) 64 cap] w fun e w'=>
  e=.returned (.agg #[.int .u32 (Sha.mix st l).a,.int .u32 (Sha.mix st l).b,.int .u32 (Sha.mix st l).c,.int .u32 (Sha.mix st l).d,.int .u32 (Sha.mix st l).e,.int .u32 (Sha.mix st l).f,.int .u32 (Sha.mix st l).g,.int .u32 (Sha.mix st l).h])∧Below w.heap.size w w':=
 mix_any st hf b off cap l hl w he
theorem ElemsAt.drop{α:Type}{c:α→Value}{w:World}{b off cap:Nat}{xs:List α}(h:ElemsAt (Shape.flat 1 (fun x=>[c x]) (fun _=>rfl)) w (some ⟨b,off,none⟩) cap xs)(k:Nat)(hk:k≤xs.length):
 ElemsAt (Shape.flat 1 (fun x=>[c x]) (fun _=>rfl)) w (some ⟨b,off+k,none⟩) (cap-k) (xs.drop k):=by
 rcases h with⟨rfl,I,h2⟩|⟨b',O,e,E,hl,U,hc⟩
 ·exact .inl ⟨by simp,by omega,by simp⟩
 ·cases e
  refine .inr ⟨b,off+k,rfl,E,by simp;omega,by omega,fun i x hx=>?_⟩
  rw[qJ]at hx
  obtain⟨cs,I,h2⟩:=hc (k+i) x hx
  refine⟨cs,I,fun j u hj=>?_⟩
  have:=h2 j u hj
  have e:off+k+i*(Shape.flat 1 (fun x=>[c x]) (fun _=>rfl)).n+j=off+(k+i)*(Shape.flat 1 (fun x=>[c x]) (fun _=>rfl)).n+j:=by simp only[Shape.flat];omega
  rw[e];exact this
theorem ElemsAt.take{α:Type}{S:Shape α}{w:World}{a:Option Addr}{cap:Nat}{xs:List α}(h:ElemsAt S w a cap xs)(n:Nat):ElemsAt S w a cap (xs.take n):=by
 rcases h with⟨rfl,h⟩|⟨b,E,rfl,I,hl,O,hc⟩
 ·exact .inl ⟨by simp,h⟩
 ·refine .inr ⟨b,E,rfl,I,by simp;omega,O,fun i x hx=>hc i x ?_⟩
  rw[qA]at hx
  split at hx
  ·exact hx
  ·cases hx
theorem write_any(base g:Nat)(m:List UInt8)(s:ByteArray)(w:World)(hbase:base≤w.heap.size)(hsz:m.length+s.size≤140737488355200)(hh:HashAt base w g m):
 Calls qf 123 #[.pointer (some ⟨g,0,none⟩),.string s] w fun e w'=>e=.returned (.tuple #[])∧HashAt base w' g (m++s.data.toList)∧Below base w w':=by
 obtain⟨lv,O,hg,ah⟩:=hh
 have aM:=Sha.rest_length m
 generalize hst:Sha.blocks Sha.start m=st at*
 generalize hrl:Sha.rest m=rl at*
 have c8:=Ja hg 8
 have c9:=Ja hg 9
 have z8:=Jh hg 8
 have z9:=Jh hg 9
 simp[XU]at c8 c9
 have aG:=ownBlock_ne ah hg (by decide)
 have an:=Lib.hid (VQ ah ⟨g,9,none⟩ aG (.int .i64 (m.length+s.size)))
 have bd:=Lib.hid (heap_setCell hg 9 (.int .i64 (m.length+s.size)))
 have b5:=Lib.hid ((Below.refl base w).setCell (p:=⟨g,9,none⟩) O (.int .i64 (m.length+s.size)))
 have bb:=QP hg
 have bf:=Lib.hid aG
 have HR:=Lib.hid hrl
 have HS:=Lib.hid hst
 have HL:=Lib.hid aM
 have bp:rl.length<64:=by omega
 obtain⟨i0,hi,bc,aY,b9⟩:=info_parts XR
 clear hg hrl hst aM ah aG
 go_enter Tryz.func123,Tryz.ntmps123
 go_wp2_with (at_builtin;refine Lib.wpList_append_own_string _ rfl _ _ 172 9 rfl base 5 i0 qe qD hi bc aY b9 lv _ _ rfl an.out s rfl (by simp[maxLen];omega) (by omega) (by simp[World.setCell];omega) ?_)
 intro v' w1 a2 ak _
 have am:w1.heap[g]?=_:=(ak.block g (by simpa[World.setCell]using bb) (by intro e;exact bf.out e.symm)).trans bd.out
 have aL:Below base w w1:=b5.out.grown ak (by simp[World.setCell];omega) (fun k hk=>(an.out.lt k hk).1)
 have af:=ownBlock_ne a2 am (by decide)
 have ha:J5 rl++Lib.strCells s=J5 (rl++s.data.toList):=by simp only[J5,List.map_append];rfl
 rw[ha]at a2
 have aI:=Ja am 8
 have bg:=Jh am 8
 simp[XU]at aI
 obtain⟨av,a7,ar,aP⟩:=Qv JB a2
 have ab:(rl++s.data.toList).length=rl.length+s.size:=by simp
 have ad:∀x,av=some x→x.block≠g:=by
  rintro x rfl e
  rw[ar]at af
  exact af (by simp[Value.ownBlock,e])
 rw[ar]at a2 ⊢
 have aA:Hid (ElemsAt ZU _ av a7 (rl++s.data.toList)):=Lib.hid (aP.setCell ⟨g,8,none⟩ ad (.slice av (rl++s.data.toList).length a7))
 have E:=Lib.hid (heap_setCell am 8 (.slice av (rl++s.data.toList).length a7))
 have ai:=Lib.hid (aL.setCell (p:=⟨g,8,none⟩) O (.slice av (rl++s.data.toList).length a7))
 have HV:=Lib.hid ar
 have aS:=Lib.hid ad
 have bq:=Lib.hid ab
 clear a2
 generalize hall:rl++s.data.toList=all at*
 have aC:=Lib.hid hall
 clear ak am aL af ha c8 z8 aP ar ad hall ab c9 z9
 go_wp2_with fail
 go_loopg [] (all.length/64) (fun k wr=>∃(j:Nat)(a:Option Addr)(cap:Nat),j+k=all.length/64∧Below base w wr∧wr.heap[g]?=some (.cells (XU (Sha.blocksN st all j) (.slice a (all.length-64*j) cap) (m.length+s.size)) 241 (0,0))∧
  ElemsAt ZU wr a cap (all.drop (64*j))∧∀x,a=some x→x.block≠g)
 case atStart=>
  refine⟨0,av,a7,by omega,ai.out,?_,by simpa using aA.out,aS.out⟩
  rw[E.out]
  simp[XU,Sha.blocksN]
 case round=>
  obtain⟨j,a,cap,hj,hb,hg,he,ad⟩:=hrel
  have Z:=Lib.hid hg
  have ao:=Lib.hid hb
  have ae:=Lib.hid he
  have aE:=Lib.hid ad
  clear aA E ai aS hb ad he
  by_cases hjk:j<all.length/64
  ·have ab:(all.drop (64*j)).length=all.length-64*j:=by simp
   obtain⟨b,ag,ha,bB,_⟩:=ae.out.byte (i:=0) (by omega)
   subst ha
   have c8:=Ja hg 8
   simp[XU]at c8
   clear hg
   have bD:(64:Int)≤((all.length-64*j:Nat):Int):=by omega
   go_wp2_with fail
   have aD:(Sha.blocksN st all j).Fit:=Sha.blocksN_fit j all (by rw[←HS.out];exact Sha.blocks_fit m Sha.start_fit)
   have aB:Hid (Sha.blocksN st all (j+1)=Sha.mix (Sha.blocksN st all j) ((all.drop (64*j)).take 64)):=Sha.blocksN_succ j st all
   have az:((all.drop (64*j)).take 64).length=64:=by simp;omega
   have ay:=Lib.hid az
   have ax:=Lib.hid aD
   have aQ:=Lib.hid (ae.out.take 64)
   generalize Sha.blocksN st all j=x at*
   clear az ab aD
   refine UH 13 (by kernel_rfl) (by kernel_rfl) fun I ne f hfb hback=>?_
   simp only[qk,qu,qm,qv]
   have a6:∀i k,(f i).cell? ⟨g,k,none⟩=wr.cell? ⟨g,k,none⟩:=fun i k=>(hfb i).cell (QP Z.out)
   have d0:∀i,(f i).cell? ⟨g,0,none⟩=some (.int .u32 x.a):=fun i=>by rw[a6,Ja Z.out];rfl
   have d1:∀i,(f i).cell? ⟨g,1,none⟩=some (.int .u32 x.b):=fun i=>by rw[a6,Ja Z.out];rfl
   have d2:∀i,(f i).cell? ⟨g,2,none⟩=some (.int .u32 x.c):=fun i=>by rw[a6,Ja Z.out];rfl
   have d3:∀i,(f i).cell? ⟨g,3,none⟩=some (.int .u32 x.d):=fun i=>by rw[a6,Ja Z.out];rfl
   have d4:∀i,(f i).cell? ⟨g,4,none⟩=some (.int .u32 x.e):=fun i=>by rw[a6,Ja Z.out];rfl
   have d5:∀i,(f i).cell? ⟨g,5,none⟩=some (.int .u32 x.f):=fun i=>by rw[a6,Ja Z.out];rfl
   have d6:∀i,(f i).cell? ⟨g,6,none⟩=some (.int .u32 x.g):=fun i=>by rw[a6,Ja Z.out];rfl
   have d7:∀i,(f i).cell? ⟨g,7,none⟩=some (.int .u32 x.h):=fun i=>by rw[a6,Ja Z.out];rfl
   have d8:∀i,(f i).cell? ⟨g,8,none⟩=some (.slice (some ⟨b,ag,none⟩) (all.length-64*j) cap):=fun i=>by rw[a6,Ja Z.out];rfl
   have bl:(64:Int)≤cap:=by
    rcases ae.out with⟨h0,_⟩|⟨_,_,_,_,hlc,_⟩
    ·have:=congrArg qx h0;simp at this;omega
    ·simp at hlc;omega
   have aa:=Lib.hid hfb
   clear hfb a6 c8
   repeat(quiet_step ((go_at_call 184;exact pure_of aa.out hback (mix_lit x ax.out b ag cap ((all.drop (64*j)).take 64) ay.out _ (aQ.out.mono (aa.out _))))))
   refine wpQuiet_nil ?_
   intro i
   have aw:=aa.out i
   have E:(f i).heap[g]?=_:=JJ Z.out aw
   have aO:=Lib.hid (ae.out.mono aw)
   have ai:=Lib.hid (ao.out.trans (aw.mono (Nat.le_trans hbase ao.out.size)))
   generalize f i=w3 at*
   clear aw hback aa d0 d1 d2 d3 d4 d5 d6 d7 d8 Z ae ao aQ
   have z0:=Jh E 0
   have z1:=Jh E 1
   have z2:=Jh E 2
   have z3:=Jh E 3
   have z4:=Jh E 4
   have z5:=Jh E 5
   have z6:=Jh E 6
   have z7:=Jh E 7
   have z8:=Jh E 8
   have c0:=Ja E 0
   have c1:=Ja E 1
   have c2:=Ja E 2
   have c3:=Ja E 3
   have c4:=Ja E 4
   have c5:=Ja E 5
   have c6:=Ja E 6
   have c7:=Ja E 7
   have c8:=Ja E 8
   simp[XU]at c0 c1 c2 c3 c4 c5 c6 c7 c8
   generalize hY:Sha.mix x ((all.drop (64*j)).take 64)=y at*
   have aT:=Lib.hid E
   clear E ay ax hY
   have b6:64≤cap:=by omega
   have Y:b≠g:=aE.out ⟨b,ag,none⟩ rfl
   by_cases hce:cap=64
   ·have hd:all.drop (64*(j+1))=[]:=by
     rcases aO.out with⟨h0,_⟩|⟨_,_,_,_,hlc,_⟩
     ·have:=congrArg qx h0;simp at this
      apply qq;omega
     ·simp at hlc
      apply qq;omega
    have HD:=Lib.hid hd
    have bv:Hid (all.length-64*j-64=0):=by have:=congrArg qx hd;simp at this;show _=_;omega
    have aR:((cap:Nat):Int)=64:=by omega
    clear hd
    go_wp2_with fail
    go_roundg (gk-1)
    case measure=>omega
    case rel=>
     refine⟨j+1,some ⟨b,ag,none⟩,cap-64,by omega,(((((((((ai.out.setCell (p:=⟨g,0,none⟩) O _).setCell (p:=⟨g,1,none⟩) O _).setCell (p:=⟨g,2,none⟩) O _).setCell (p:=⟨g,3,none⟩) O _).setCell (p:=⟨g,4,none⟩) O _).setCell (p:=⟨g,5,none⟩) O _).setCell (p:=⟨g,6,none⟩) O _).setCell (p:=⟨g,7,none⟩) O _).setCell (p:=⟨g,8,none⟩) O _),?_,?_,aE.out⟩
     ·rw[heap_setCell (heap_setCell (heap_setCell (heap_setCell (heap_setCell (heap_setCell (heap_setCell (heap_setCell (heap_setCell aT.out 0 _) 1 _) 2 _) 3 _) 4 _) 5 _) 6 _) 7 _) 8 _,aB.out,show all.length-64*(j+1)=all.length-64*j-64 by omega]
      simp[XU]
      omega
     ·rw[HD.out];exact .inl ⟨rfl,by have:maxLen=9223372036854775807:=rfl;omega,by simp⟩
   ·have aR:(64:Int)<cap:=by omega
    go_wp2_with fail
    go_roundg (gk-1)
    case measure=>omega
    case rel=>
     refine⟨j+1,some ⟨b,ag+64,none⟩,cap-64,by omega,(((((((((ai.out.setCell (p:=⟨g,0,none⟩) O _).setCell (p:=⟨g,1,none⟩) O _).setCell (p:=⟨g,2,none⟩) O _).setCell (p:=⟨g,3,none⟩) O _).setCell (p:=⟨g,4,none⟩) O _).setCell (p:=⟨g,5,none⟩) O _).setCell (p:=⟨g,6,none⟩) O _).setCell (p:=⟨g,7,none⟩) O _).setCell (p:=⟨g,8,none⟩) O _),?_,?_,by rintro x e;cases e;exact Y⟩
     ·rw[heap_setCell (heap_setCell (heap_setCell (heap_setCell (heap_setCell (heap_setCell (heap_setCell (heap_setCell (heap_setCell aT.out 0 _) 1 _) 2 _) 3 _) 4 _) 5 _) 6 _) 7 _) 8 _,aB.out,show all.length-64*(j+1)=all.length-64*j-64 by omega]
      simp[XU]
     ·have hd:=aO.out.drop 64 (by simp;omega)
      rw[qG,show 64*j+64=64*(j+1) by omega]at hd
      exact(ElemsAt.setCell (c:=JB) (ElemsAt.setCell (c:=JB) (ElemsAt.setCell (c:=JB) (ElemsAt.setCell (c:=JB) (ElemsAt.setCell (c:=JB) (ElemsAt.setCell (c:=JB) (ElemsAt.setCell (c:=JB) (ElemsAt.setCell (c:=JB) (ElemsAt.setCell (c:=JB) hd ⟨g,0,none⟩ (by rintro x e;cases e;exact Y) _) ⟨g,1,none⟩ (by rintro x e;cases e;exact Y) _) ⟨g,2,none⟩ (by rintro x e;cases e;exact Y) _) ⟨g,3,none⟩ (by rintro x e;cases e;exact Y) _) ⟨g,4,none⟩ (by rintro x e;cases e;exact Y) _) ⟨g,5,none⟩ (by rintro x e;cases e;exact Y) _) ⟨g,6,none⟩ (by rintro x e;cases e;exact Y) _) ⟨g,7,none⟩ (by rintro x e;cases e;exact Y) _) ⟨g,8,none⟩ (by rintro x e;cases e;exact Y) _)
  ·have ej:j=all.length/64:=by omega
   have aZ:((all.length-64*j:Nat):Int)<64:=by omega
   have aU:(all.drop (64*j)).length=all.length-64*j:=by simp
   have au:=Lib.hid aU
   have EJ:=Lib.hid ej
   have c8:=Ja hg 8
   have z8:=Jh hg 8
   simp[XU]at c8
   have bN:=ao.out.size
   clear hg aU ej
   go_wp2_with (at_builtin;refine VH JB byteV_one rfl _ _ 172 rfl base 5 (.int .u8 0) 1 qe XR rfl (.slice none 0 0) 0 [] rfl (World.ownsRow_nil _ _ _ _) a (all.length-64*j) cap (all.drop (64*j)) au.out rfl ae.out (by omega) (by decide) (by omega) ?_)
   intro v2 w4 U ap
   replace U:w4.ownsRow base 5 1 v2 (all.length-64*j) ((all.drop (64*j)).map JB):=by first|exact U|(rw[List.map_drop];exact U)|simpa using U
   have al:w4.heap[g]?=_:=(ap.block g (QP Z.out) (by simp[Value.ownBlock])).trans Z.out
   have aN:Below base w w4:=ao.out.grown ap (by omega) (fun k hk=>by simp[Value.ownBlock]at hk)
   have aj:=ownBlock_ne U al (by decide)
   obtain⟨a4,ac,aF,_⟩:=Qv JB U
   rw[aF,au.out]at U aj
   rw[aF,au.out]
   have aI:=Ja al 8
   have bg:=Jh al 8
   simp[XU]at aI
   have b8:=Lib.hid (heap_setCell al 8 (.slice a4 (all.length-64*j) ac))
   have aH:=Lib.hid (VQ U ⟨g,8,none⟩ aj (.slice a4 (all.length-64*j) ac))
   have ba:=Lib.hid (aN.setCell (p:=⟨g,8,none⟩) O (.slice a4 (all.length-64*j) ac))
   clear ap al aN U aj aF c8 z8
   go_wp2
   go_end0
   refine⟨rfl,⟨.slice a4 (all.length-64*j) ac,O,?_,?_⟩,ba.out⟩
   ·rw[b8.out,Sha.blocks_append,HS.out,HR.out,aC.out,EJ.out]
    simp[XU,Sha.blocks]
   ·have e:Sha.rest (m++s.data.toList)=all.drop (64*j):=by rw[Sha.rest_append,HR.out,aC.out,EJ.out];rfl
    rw[e,au.out]
    exact aH.out
def VP(m:List UInt8)(k:Nat):List UInt8:=Sha.rest m++0x80::qd k 0
theorem padK_snoc(m:List UInt8)(k:Nat):J5 (VP m k)++[JB 0]=J5 (VP m (k+1)):=by
 simp[J5,VP,List.replicate_succ']
theorem U8(m:List UInt8)(k:Nat):(VP m k).length=m.length%64+1+k:=by
 simp[VP,Sha.rest_length];omega
theorem be8_get(N j:Nat)(hj:j<8):(Sha.be8 N)[j]?=some (qh (N>>>(56-8*j))):=by
 have:j=0∨j=1∨j=2∨j=3∨j=4∨j=5∨j=6∨j=7:=by omega
 rcases this with rfl|rfl|rfl|rfl|rfl|rfl|rfl|rfl<;>rfl
theorem be8_byte(n j:Nat):JB (qh ((8*n)>>>(56-8*j)))=.int .u8 ((n:Int)*8/2^(56-8*j)%256):=by
 unfold JB
 congr 1
 rw[UInt8.toNat_ofNat',qj,Nat.mul_comm 8 n]
 simp
theorem be8_snoc(q:List UInt8)(n j:Nat)(hj:j<8):J5 (q++(Sha.be8 (8*n)).take j)++[Value.int .u8 ((n:Int)*8/2^(56-8*j)%256)]=J5 (q++(Sha.be8 (8*n)).take (j+1)):=by
 rw[←be8_byte,List.take_add_one,be8_get _ _ hj]
 simp[J5]
theorem w8_word(x:Sha.W8)(u:Nat)(hu:u<8):∃n:Nat,(w8c x)[u]?=some (.int .u32 n)∧x.bytes.take (4*(u+1))=x.bytes.take (4*u)++Sha.be4 n:=by
 have:u=0∨u=1∨u=2∨u=3∨u=4∨u=5∨u=6∨u=7:=by omega
 rcases this with rfl|rfl|rfl|rfl|rfl|rfl|rfl|rfl<;>exact⟨_,rfl,rfl⟩
theorem be4_vals(n:Nat):J5 (Sha.be4 n)=[.int .u8 ((n:Int)/16777216%256),.int .u8 ((n:Int)/65536%256),.int .u8 ((n:Int)/256%256),.int .u8 ((n:Int)%256)]:=by
 simp only[J5,Sha.be4,List.map_cons,List.map_nil,JB,UInt8.toNat_ofNat',qj]
 simp
theorem hsum_any(base g:Nat)(m:List UInt8)(w:World)(hm:m.length≤140737488355200)(hh:HashAt base w g m):
 Calls qf 126 #[.pointer (some ⟨g,0,none⟩)] w fun e w'=>e=.returned (.string ⟨(Sha.sum m).toArray⟩)∧Below w.heap.size w w':=by
 obtain⟨lv,cC,hg,Y⟩:=hh
 have bd:=Sha.rest_length m
 have aJ:(Sha.blocks Sha.start m).Fit:=Sha.blocks_fit m Sha.start_fit
 generalize hst:Sha.blocks Sha.start m=st at*
 obtain⟨av,aD,hv,bt⟩:=Qv JB Y
 subst hv
 have c8:=Ja hg 8
 simp[XU]at c8
 have HG:=Lib.hid hg
 have HS:=Lib.hid hst
 have HL:=Lib.hid bd
 have bP:Hid (ElemsAt ZU w av aD (Sha.rest m)):=bt
 have ci:(Sha.rest m).length<64:=by omega
 clear hg hst Y bt bd
 go_enter Tryz.func126,Tryz.ntmps126
 go_wp2_with (at_builtin;refine VH JB byteV_one rfl _ _ 172 rfl w.heap.size 5 (.int .u8 0) 1 qe XR rfl (.slice none 0 0) 0 [] rfl (World.ownsRow_nil _ _ _ _) av _ aD (Sha.rest m) rfl rfl bP.out (by omega) (by decide) (qc _) ?_)
 intro v1 w1 aa aF
 replace aa:w1.ownsRow w.heap.size 5 1 v1 (Sha.rest m).length (J5 (Sha.rest m)):=by first|exact aa|simpa using aa
 have aQ:Below w.heap.size w w1:=(Below.refl _ _).grown aF (qc _) (fun k hk=>by simp[Value.ownBlock]at hk)
 have ao:=aQ.size
 go_wp2_with (at_builtin;refine Za rfl _ _ 172 rfl w.heap.size 5 (.int .u8 0) 1 1 qe XR rfl (by decide) _ _ _ rfl aa _ rfl rfl (by simp[Value.oneCell']) (by omega) (by decide) ao ?_)
 intro v2 w2 ac aE
 have bc:=Vx aQ aa aE ao (qc _)
 replace ac:w2.ownsRow w.heap.size 5 1 v2 ((Sha.rest m).length+1) (J5 (VP m 0)):=by
  have e:J5 (Sha.rest m)++[JB 0x80]=J5 (VP m 0):=by simp[J5,VP]
  rw[←e];exact ac
 clear aE aF aQ ao aa
 go_wp2_with fail
 go_loopg [3] (Sha.zeros (m.length+1)) (fun k v wr=>∃j:Nat,j+k=Sha.zeros (m.length+1)∧Below w.heap.size w wr∧wr.ownsRow w.heap.size 5 1 v ((VP m j).length) (J5 (VP m j)))
 case atStart=>exact⟨0,by omega,bc,by rw[U8];rw[HL.out]at ac;exact ac⟩
 case round=>
  obtain⟨j,hj,hb,Y⟩:=hrel
  have ad:=hb.size
  have aj:=U8 m j
  have HO:=Lib.hid Y
  clear Y ac bc
  by_cases hz:j<Sha.zeros (m.length+1)
  ·have aT:((((VP m j).length:Nat):Int)%64==56)=false:=by
    have bN:=hz
    unfold Sha.zeros at bN hj
    rw[aj];simp;omega
   have aO:=Lib.hid aj
   clear aj
   obtain⟨ap,aH,rfl,_⟩:=Qv JB HO.out
   have bS:(VP m j).length<200:=by rw[aO.out];unfold Sha.zeros at hz;omega
   go_wp2_with (at_builtin;refine Za rfl _ _ 172 rfl w.heap.size 5 (.int .u8 0) 1 1 qe XR rfl (by decide) _ _ _ rfl HO.out _ rfl rfl (by simp[Value.oneCell']) (by omega) (by decide) ad ?_)
   intro v3 w3 a2 ab
   have ag:=Vx hb HO.out ab ad (qc _)
   have e3:J5 (VP m j)++[JB 0]=J5 (VP m (j+1)):=padK_snoc m j
   have e4:(VP m (j+1)).length=(VP m j).length+1:=by rw[U8,U8];omega
   have Z:w3.ownsRow w.heap.size 5 1 v3 (VP m (j+1)).length (J5 (VP m (j+1))):=by rw[e4,←e3];exact a2
   have aq:=Lib.hid Z
   clear a2 ab e3 e4 Z
   go_wp2_with fail
   go_roundg (gk-1)
   case measure=>omega
   case rel=>exact⟨j+1,by omega,ag,aq.out⟩
  ·have ej:j=Sha.zeros (m.length+1):=by omega
   have aT:((((VP m j).length:Nat):Int)%64==56)=true:=by
    rw[aj,ej];unfold Sha.zeros;simp;omega
   have bv:((((VP m j).length:Nat):Int)%64 !=56)=false:=by rw[bne,aT];rfl
   have bS:(VP m j).length<200:=by rw[aj,ej];unfold Sha.zeros;omega
   have EJ:=Lib.hid ej
   have aO:=Lib.hid aj
   clear aj ej hz
   generalize hQ:VP m j=q at*
   have HQ:=Lib.hid hQ
   clear hQ
   obtain⟨ap,aH,rfl,_⟩:=Qv JB HO.out
   go_wp2_with fail
   have hN:m.length*8≤1125899906841600:=by omega
   clear aT bv
   go_loopg [3,26] 8 (fun k v i wr=>∃j:Nat,j+k=8∧i=.int .i64 j∧Below w.heap.size w wr∧wr.ownsRow w.heap.size 5 1 v (q.length+j) (J5 (q++(Sha.be8 (8*m.length)).take j)))
   case atStart=>exact⟨0,by omega,rfl,hb,by simpa using HO.out⟩
   case round=>
    clear HO hb ad
    obtain⟨j,hj,rfl,hb,Y⟩:=hrel
    have ad:=hb.size
    have HO:=Lib.hid Y
    clear Y
    obtain⟨ap,aH,hv,_⟩:=Qv JB HO.out
    have aK:(q++(Sha.be8 (8*m.length)).take j).length=q.length+j:=by simp[Sha.be8];omega
    rw[aK]at hv
    clear aK
    subst hv
    have c9:wr.cell? ⟨g,9,none⟩=some (.int .i64 m.length):=by
     rw[hb.cell (QP HG.out),Ja HG.out];rfl
    by_cases hj8:j<8
    ·go_wp2_with (at_builtin;refine Za rfl _ _ 172 rfl w.heap.size 5 (.int .u8 0) 1 1 qe XR rfl (by decide) _ _ _ rfl HO.out _ rfl rfl (by simp[Value.oneCell']) (by omega) (by decide) ad ?_)
     intro v3 w3 a2 ab
     have ag:=Vx hb HO.out ab ad (qc _)
     have e3:=be8_snoc q m.length j hj8
     have Z:w3.ownsRow w.heap.size 5 1 v3 (q.length+(j+1)) (J5 (q++(Sha.be8 (8*m.length)).take (j+1))):=by rw[←e3];exact a2
     have aq:=Lib.hid Z
     clear a2 ab e3 Z
     go_wp2_with fail
     go_roundg (gk-1)
     case measure=>omega
     case rel=>exact⟨j+1,by omega,by go_num,ag,aq.out⟩
    ·have ej:j=8:=by omega
     have bA:Hid (q++(Sha.be8 (8*m.length)).take j=Sha.rest m++Sha.tail m.length):=by
      rw[ej,←HQ.out,EJ.out]
      simp[VP,Sha.tail,Sha.be8,Hid]
     generalize hA:q++(Sha.be8 (8*m.length)).take j=all at*
     have bz:all.length=q.length+j:=by rw[←hA];simp[Sha.be8];omega
     have bk:=Lib.hid bz
     clear hA bz ej c9
     have E:=JJ HG.out hb
     have c0:=Ja E 0
     have c1:=Ja E 1
     have c2:=Ja E 2
     have c3:=Ja E 3
     have c4:=Ja E 4
     have c5:=Ja E 5
     have c6:=Ja E 6
     have c7:=Ja E 7
     simp[XU]at c0 c1 c2 c3 c4 c5 c6 c7
     clear E
     go_wp2_with fail
     clear c0 c1 c2 c3 c4 c5 c6 c7
     have cb:all.length%64=0:=by
      have h9:=aO.out
      rw[EJ.out]at h9
      unfold Sha.zeros at h9
      have:=bk.out
      omega
     obtain⟨a5,aG,aW,aL⟩:=Qv JB HO.out
     have aU:(wr.alloc (.cells #[.int .u32 st.a,.int .u32 st.b,.int .u32 st.c,.int .u32 st.d,.int .u32 st.e,.int .u32 st.f,.int .u32 st.g,.int .u32 st.h] 239)).heap[wr.heap.size]?=some (.cells (w8c (Sha.blocksN st all 0)) 239 (0,0)):=JH _ _
     have bb:=hb.alloc ad (.cells #[.int .u32 st.a,.int .u32 st.b,.int .u32 st.c,.int .u32 st.d,.int .u32 st.e,.int .u32 st.f,.int .u32 st.g,.int .u32 st.h] 239)
     have bj:ElemsAt ZU (wr.alloc (.cells #[.int .u32 st.a,.int .u32 st.b,.int .u32 st.c,.int .u32 st.d,.int .u32 st.e,.int .u32 st.f,.int .u32 st.g,.int .u32 st.h] 239)) a5 aG all:=aL.mono ((Below.refl _ _).alloc (qc _) _)
     have am:∀x,a5=some x→x.block≠wr.heap.size:=by
      rintro x rfl
      have:=(HO.out.lt x.block (by rw[aW];rfl)).2
      omega
     obtain⟨O,ar⟩:∃O,O=wr.heap.size:=⟨_,rfl⟩
     have E:Hid (w.heap.size≤O):=by rw[ar];exact ad
     rw[←ar]at aU am ad ⊢
     have br:=Lib.hid aU
     have bC:=Lib.hid bb
     have bn:=Lib.hid bj
     have bB:=Lib.hid am
     have bi:=Lib.hid aW
     clear aU bb bj am aW aL ar HO hb
     generalize wr.alloc (.cells #[.int .u32 st.a,.int .u32 st.b,.int .u32 st.c,.int .u32 st.d,.int .u32 st.e,.int .u32 st.f,.int .u32 st.g,.int .u32 st.h] 239)=wq at*
     go_loopg [3] (all.length/64) (fun k v wr=>∃(j:Nat)(a:Option Addr)(cap:Nat),j+k=all.length/64∧v=.slice a (all.length-64*j) cap∧Below w.heap.size w wr∧wr.heap[O]?=some (.cells (w8c (Sha.blocksN st all j)) 239 (0,0))∧
      ElemsAt ZU wr a cap (all.drop (64*j))∧∀x,a=some x→x.block≠O)
     case atStart=>exact⟨0,a5,aG,by omega,by have:=bi.out;rw[bk.out]at this ⊢;simpa using this,bC.out,br.out,by simpa using bn.out,bB.out⟩
     case round=>
      clear br bC bn bB bi
      obtain⟨i,a,cap,hi,rfl,hb,hg,he,am⟩:=hrel
      have ah:=hb.size
      have a8:=Lib.hid hg
      have az:=Lib.hid hb
      have an:=Lib.hid he
      have aw:=Lib.hid am
      clear hg hb he am
      by_cases hik:i<all.length/64
      ·have bQ:(all.drop (64*i)).length=all.length-64*i:=by simp
       obtain⟨b,ax,ha,cp,_⟩:=an.out.byte (i:=0) (by omega)
       subst ha
       have cu:(0:Int)<((all.length-64*i:Nat):Int):=by omega
       have cd:(64:Int)≤((all.length-64*i:Nat):Int):=by omega
       have bl:(Sha.blocksN st all i).Fit:=Sha.blocksN_fit i all aJ
       have aI:Hid (Sha.blocksN st all (i+1)=Sha.mix (Sha.blocksN st all i) ((all.drop (64*i)).take 64)):=Sha.blocksN_succ i st all
       have aC:((all.drop (64*i)).take 64).length=64:=by simp;omega
       have aB:=Lib.hid aC
       have aA:=Lib.hid bl
       have bu:=Lib.hid (an.out.take 64)
       generalize Sha.blocksN st all i=x at*
       clear aC bQ bl
       go_wp2_with fail
       refine UH 4 (by kernel_rfl) (by kernel_rfl) fun I ne fw hfb hback=>?_
       simp only[qk,qu,qm,qv]
       have ae:∀i k,(fw i).cell? ⟨O,k,none⟩=_:=fun i k=>(hfb i).cell (QP a8.out)
       have d0:∀i,(fw i).cell? ⟨O,0,none⟩=some (.int .u32 x.a):=fun i=>by rw[ae,Ja a8.out];rfl
       have d1:∀i,(fw i).cell? ⟨O,1,none⟩=some (.int .u32 x.b):=fun i=>by rw[ae,Ja a8.out];rfl
       have d2:∀i,(fw i).cell? ⟨O,2,none⟩=some (.int .u32 x.c):=fun i=>by rw[ae,Ja a8.out];rfl
       have d3:∀i,(fw i).cell? ⟨O,3,none⟩=some (.int .u32 x.d):=fun i=>by rw[ae,Ja a8.out];rfl
       have d4:∀i,(fw i).cell? ⟨O,4,none⟩=some (.int .u32 x.e):=fun i=>by rw[ae,Ja a8.out];rfl
       have d5:∀i,(fw i).cell? ⟨O,5,none⟩=some (.int .u32 x.f):=fun i=>by rw[ae,Ja a8.out];rfl
       have d6:∀i,(fw i).cell? ⟨O,6,none⟩=some (.int .u32 x.g):=fun i=>by rw[ae,Ja a8.out];rfl
       have d7:∀i,(fw i).cell? ⟨O,7,none⟩=some (.int .u32 x.h):=fun i=>by rw[ae,Ja a8.out];rfl
       have bZ:(64:Int)≤cap:=by
        rcases an.out with⟨h0,_⟩|⟨_,_,_,_,hlc,_⟩
        ·have:=congrArg qx h0;simp at this;omega
        ·simp at hlc;omega
       have ak:=Lib.hid hfb
       clear hfb ae
       repeat(quiet_step ((go_at_call 184;exact pure_of ak.out hback (mix_lit x aA.out b ax cap ((all.drop (64*i)).take 64) aB.out _ (bu.out.mono (ak.out _))))))
       refine wpQuiet_nil ?_
       intro ii
       have ay:=ak.out ii
       have U:(fw ii).heap[O]?=_:=JJ a8.out ay
       have bp:=Lib.hid (an.out.mono ay)
       have ag:=Lib.hid (az.out.trans (ay.mono ah))
       generalize fw ii=w3 at*
       clear ay hback ak d0 d1 d2 d3 d4 d5 d6 d7 a8 an az bu
       have z0:=Jh U 0
       have z1:=Jh U 1
       have z2:=Jh U 2
       have z3:=Jh U 3
       have z4:=Jh U 4
       have z5:=Jh U 5
       have z6:=Jh U 6
       have z7:=Jh U 7
       have c0:=Ja U 0
       have c1:=Ja U 1
       have c2:=Ja U 2
       have c3:=Ja U 3
       have c4:=Ja U 4
       have c5:=Ja U 5
       have c6:=Ja U 6
       have c7:=Ja U 7
       simp[w8c]at c0 c1 c2 c3 c4 c5 c6 c7
       generalize hY:Sha.mix x ((all.drop (64*i)).take 64)=y at*
       have bD:=Lib.hid U
       clear U aB aA hY
       have bK:64≤cap:=by omega
       have a7:b≠O:=aw.out ⟨b,ax,none⟩ rfl
       by_cases hce:cap=64
       ·have hd:all.drop (64*(i+1))=[]:=by
         rcases bp.out with⟨h0,_⟩|⟨_,_,_,_,hlc,_⟩
         ·have:=congrArg qx h0;simp at this
          apply qq;omega
         ·simp at hlc
          apply qq;omega
        have HD:=Lib.hid hd
        have cl:Hid (all.length-64*i-64=0):=by have:=congrArg qx hd;simp at this;show _=_;omega
        have bw:((cap:Nat):Int)=64:=by omega
        clear hd
        go_wp2_with fail
        go_roundg (gk-1)
        case measure=>omega
        case rel=>
         refine⟨i+1,some ⟨b,ax,none⟩,cap-64,by omega,by first|(rw[show all.length-64*(i+1)=all.length-64*i-64 by omega];done)|rw[show all.length-64*(i+1)=all.length-64*i-64 by omega,show cap-64=0 by omega],((((((((ag.out.setCell (p:=⟨O,0,none⟩) E.out _).setCell (p:=⟨O,1,none⟩) E.out _).setCell (p:=⟨O,2,none⟩) E.out _).setCell (p:=⟨O,3,none⟩) E.out _).setCell (p:=⟨O,4,none⟩) E.out _).setCell (p:=⟨O,5,none⟩) E.out _).setCell (p:=⟨O,6,none⟩) E.out _).setCell (p:=⟨O,7,none⟩) E.out _),?_,?_,aw.out⟩
         ·rw[heap_setCell (heap_setCell (heap_setCell (heap_setCell (heap_setCell (heap_setCell (heap_setCell (heap_setCell bD.out 0 _) 1 _) 2 _) 3 _) 4 _) 5 _) 6 _) 7 _,aI.out]
          simp[w8c]
         ·rw[HD.out];exact .inl ⟨rfl,by have:maxLen=9223372036854775807:=rfl;omega,by simp⟩
       ·have bw:(64:Int)<cap:=by omega
        go_wp2_with fail
        go_roundg (gk-1)
        case measure=>omega
        case rel=>
         refine⟨i+1,some ⟨b,ax+64,none⟩,cap-64,by omega,by first|(rw[show all.length-64*(i+1)=all.length-64*i-64 by omega];done)|rw[show all.length-64*(i+1)=all.length-64*i-64 by omega,show cap-64=0 by omega],((((((((ag.out.setCell (p:=⟨O,0,none⟩) E.out _).setCell (p:=⟨O,1,none⟩) E.out _).setCell (p:=⟨O,2,none⟩) E.out _).setCell (p:=⟨O,3,none⟩) E.out _).setCell (p:=⟨O,4,none⟩) E.out _).setCell (p:=⟨O,5,none⟩) E.out _).setCell (p:=⟨O,6,none⟩) E.out _).setCell (p:=⟨O,7,none⟩) E.out _),?_,?_,by rintro x e;cases e;exact a7⟩
         ·rw[heap_setCell (heap_setCell (heap_setCell (heap_setCell (heap_setCell (heap_setCell (heap_setCell (heap_setCell bD.out 0 _) 1 _) 2 _) 3 _) 4 _) 5 _) 6 _) 7 _,aI.out]
          simp[w8c]
         ·have hd:=bp.out.drop 64 (by simp;omega)
          rw[qG,show 64*i+64=64*(i+1) by omega]at hd
          exact(ElemsAt.setCell (c:=JB) (ElemsAt.setCell (c:=JB) (ElemsAt.setCell (c:=JB) (ElemsAt.setCell (c:=JB) (ElemsAt.setCell (c:=JB) (ElemsAt.setCell (c:=JB) (ElemsAt.setCell (c:=JB) (ElemsAt.setCell (c:=JB) hd ⟨O,0,none⟩ (by rintro x e;cases e;exact a7) _) ⟨O,1,none⟩ (by rintro x e;cases e;exact a7) _) ⟨O,2,none⟩ (by rintro x e;cases e;exact a7) _) ⟨O,3,none⟩ (by rintro x e;cases e;exact a7) _) ⟨O,4,none⟩ (by rintro x e;cases e;exact a7) _) ⟨O,5,none⟩ (by rintro x e;cases e;exact a7) _) ⟨O,6,none⟩ (by rintro x e;cases e;exact a7) _) ⟨O,7,none⟩ (by rintro x e;cases e;exact a7) _)
      ·have ei:i=all.length/64:=by omega
       have bx:all.length-64*i=0:=by omega
       have be:Hid (Sha.sum m=(Sha.blocksN st all i).bytes):=by
        show _=_
        rw[Sha.sum_eq,HS.out,←bA.out,ei]
        rfl
       have bh:(Sha.blocksN st all i).Fit:=Sha.blocksN_fit i all aJ
       generalize Sha.blocksN st all i=x at*
       have HZ:=Lib.hid bx
       have cq:=Lib.hid bh
       have bJ:((all.length-64*i:Nat):Int)≤0:=by omega
       have hg:=a8.out
       have c0:=Ja hg 0
       have c1:=Ja hg 1
       have c2:=Ja hg 2
       have c3:=Ja hg 3
       have c4:=Ja hg 4
       have c5:=Ja hg 5
       have c6:=Ja hg 6
       have c7:=Ja hg 7
       simp[w8c]at c0 c1 c2 c3 c4 c5 c6 c7
       have bM:decide ((0:Int)<((all.length-64*i:Nat):Int))=false:=decide_eq_false (by omega)
       have bO:decide (0<all.length-64*i)=false:=decide_eq_false (by omega)
       clear hg bx bh ei
       go_wp2_with fail
       clear bO c0 c1 c2 c3 c4 c5 c6 c7 bM bJ
       go_loopg [6,57] 8 (fun k v i wr=>∃u:Nat,u+k=8∧i=.int .i64 u∧Below w.heap.size w wr∧wr.ownsRow w.heap.size 5 1 v (4*u) (J5 (x.bytes.take (4*u))))
       case atStart=>exact⟨0,by omega,rfl,az.out,by simpa[J5]using World.ownsRow_nil _ _ _ _⟩
       case round=>
        clear az a8 an aw ah
        obtain⟨u,hu,rfl,hb,Y⟩:=hrel
        have ah:=hb.size
        have HO:=Lib.hid Y
        clear Y
        by_cases hu8:u<8
        ·obtain⟨n,hn,bf⟩:=w8_word x u hu8
         have cG:∀wz:World,(Instr.index 239 (.agg #[.int .u32 x.a,.int .u32 x.b,.int .u32 x.c,.int .u32 x.d,.int .u32 x.e,.int .u32 x.f,.int .u32 x.g,.int .u32 x.h]) (.int .i64 u)).run qf wz=.ok (.int .u32 n) wz:=
          fun wz=>run_index_agg 239 222 8 Tryz.underlying222 qK (by kernel_rfl) _ rfl u _ hn wz
         have bs:Hid (J5 (x.bytes.take (4*u))++[.int .u8 ((n:Int)/16777216%256),.int .u8 ((n:Int)/65536%256),.int .u8 ((n:Int)/256%256),.int .u8 ((n:Int)%256)]=J5 (x.bytes.take (4*(u+1)))):=by
          show _=_
          rw[←be4_vals,bf];simp[J5]
         clear hn bf
         go_wp2_with (at_builtin;refine wpList_append_lit rfl _ _ 172 rfl w.heap.size 5 (.int .u8 0) 1 qe XR rfl _ _ _ rfl HO.out _ 4 rfl rfl (by simp[Value.oneCell']) (by omega) (by decide) ah ?_)
         intro v3 w3 a2 ab
         have ag:=Vx hb HO.out ab ah (qc _)
         have Z:w3.ownsRow w.heap.size 5 1 v3 (4*(u+1)) (J5 (x.bytes.take (4*(u+1)))):=by rw[←bs.out];exact a2
         have aq:=Lib.hid Z
         clear a2 ab Z
         go_wp2_with fail
         go_roundg (gk-1)
         case measure=>omega
         case rel=>exact⟨u+1,by omega,by go_num,ag,aq.out⟩
        ·have eu:u=8:=by omega
         have aP:x.bytes.length=32:=by simp[Sha.W8.bytes,Sha.be4]
         have hO:=HO.out
         rw[eu,show 4*8=32 from rfl,qp (by omega)]at hO
         obtain⟨a6,au,bm,aX⟩:=Qv JB hO
         rw[aP]at bm
         obtain⟨b6,al,rfl,_,_⟩:=(show ElemsAt ZU wr a6 au x.bytes from aX).byte (i:=0) (by omega)
         have bL:=run_convert_bytes_back (P:=qf) wr 172 9 5 ⟨b6,al,none⟩ au x.bytes qe Tryz.underlying5 qD (fun j hj=>by
          obtain⟨b7,bU,e7,_,h7⟩:=(show ElemsAt ZU wr (some ⟨b6,al,none⟩) au x.bytes from aX).byte hj
          cases e7
          have e8:(⟨b6,al,none⟩:Addr).add j=⟨b6,al+j,none⟩:=by cases j<;>simp[Addr.add]
          rw[e8,h7]
          simp[List.getD,qo hj])
         rw[aP]at bL
         subst bm
         clear hO aX aP HO eu
         go_wp2
         go_ret
         exact⟨by rw[be.out];rfl,hb⟩
theorem new_any(w:World):Calls qf 122 #[] w fun e w'=>e=.returned (.pointer (some ⟨w.heap.size,0,none⟩))∧HashAt w.heap.size w' w.heap.size []∧Below w.heap.size w w':=by
 go_enter Tryz.func122,Tryz.ntmps122
 go_wp2
 go_ret
 exact⟨rfl,⟨.slice none 0 0,qc _,JH _ _,World.ownsRow_nil _ _ _ _⟩,(Below.refl _ _).alloc (qc _) _⟩
def Jw(ss:List ByteArray):List UInt8:=ss.flatMap fun s=>s.data.toList
theorem joined_take(ss:List ByteArray)(k:Nat)(hk:k<ss.length):Jw (ss.take (k+1))=Jw (ss.take k)++ss[k].data.toList:=by
 unfold Jw
 rw[List.take_succ_eq_append_getElem hk,List.flatMap_append]
 simp only[List.flatMap_cons,List.flatMap_nil,qy]
theorem joined_le(ss:List ByteArray)(k:Nat)(hk:k<ss.length):(Jw (ss.take k)).length+ss[k].size≤(Jw ss).length:=by
 have E:Jw ss=Jw (ss.take (k+1))++Jw (ss.drop (k+1)):=by
  unfold Jw
  rw[←List.flatMap_append,List.take_append_drop]
 have h2:=congrArg qx E
 rw[joined_take ss k hk]at h2
 simp only[qB]at h2
 have I:ss[k].data.toList.length=ss[k].size:=by rw[qF];rfl
 omega
theorem shasum_any(v:Value)(ss:List ByteArray)(w:World)(hs:SliceOf strS w v ss)(hlen:ss.length≤maxLen)(hsz:(Jw ss).length≤140737488355200):
 Calls qf 125 #[v] w fun e w'=>e=.returned (.string ⟨(Sha.sum (Jw ss)).toArray⟩)∧Below w.heap.size w w':=by
 obtain⟨a,cap,rfl,he⟩:=hs
 unfold maxLen at hlen
 have HE:=Lib.hid he
 clear he
 go_enter Tryz.func125,Tryz.ntmps125
 go_wp2_with fail
 refine(new_any _).mono ?_
 rintro e w1 ⟨rfl,Z,hb⟩
 have Y:=Lib.hid Z
 have HB:=Lib.hid hb
 clear Z hb
 go_wp2_with fail
 go_loopw [9] (fun i wr=>∃k:Nat,k≤ss.length∧i=.int .i64 k∧Below w.heap.size w wr∧HashAt w.heap.size wr w.heap.size (Jw (ss.take k))) (fun i _=>ss.length-(intOf i).toNat)
 case atStart=>exact⟨0,Nat.zero_le _,rfl,HB.out,by simpa[Jw]using Y.out⟩
 case round=>
  clear Y HB
  obtain⟨k,hk,rfl,hb,Z⟩:=hrel
  have Y:=Lib.hid Z
  have HB:=Lib.hid hb
  have O:=hb.size
  clear Z
  by_cases hlt:k<ss.length
  ·obtain⟨b,ad,rfl,af,hc⟩:=(HE.out.mono hb).str hlt
   have a8:=joined_le ss k hlt
   clear hb
   go_wp2_with fail
   refine(write_any w.heap.size w.heap.size (Jw (ss.take k)) ss[k] _ O (by omega) Y.out).mono ?_
   rintro e w2 ⟨rfl,U,E⟩
   have a7:=Lib.hid U
   have a6:=Lib.hid (HB.out.trans E)
   clear U E a8
   go_wp2_with fail
   go_roundw
   case rel=>exact⟨k+1,by omega,by go_num,a6.out,by rw[joined_take ss k hlt];exact a7.out⟩
   case measure=>simp[intOf];omega
  ·have ek:k=ss.length:=by omega
   have I:Hid (Jw (ss.take k)=Jw ss):=by show _=_;rw[ek,List.take_length]
   clear hb ek
   go_wp2_with fail
   refine(hsum_any w.heap.size w.heap.size (Jw (ss.take k)) _ (by rw[I.out];omega) Y.out).mono ?_
   rintro e w2 ⟨rfl,E⟩
   rw[I.out]
   go_wp2_with fail
   go_ret
   exact⟨rfl,HB.out.trans (E.mono O)⟩
end Go.Proofs.YthohbneadomgdaaGreatDoor
namespace Go.Proofs.YthohbneadomgdaaGreatDoor.Sha
def key64(k:Bytes):Bytes:=let k':=if 64<k.length then sum k else k;k'++qd (64-k'.length) 0
def pad(k:Bytes)(m:UInt8):Bytes:=(key64 k).map (·^^^m)
def tag(k m:Bytes):Bytes:=sum (pad k 0x5c++sum (pad k 0x36++m))
theorem key64_length(k:Bytes):(key64 k).length=64:=by
 unfold key64
 by_cases h:64<k.length
 ·simp[h,sum_length]
 ·simp[h];omega
theorem pad_length(k:Bytes)(m:UInt8):(pad k m).length=64:=by simp[pad,key64_length]
theorem tag_length(k m:Bytes):(tag k m).length=32:=sum_length _
def parts(key info:Bytes):Nat→Bytes×Bytes
 |0=>([],[])
 |i+1=>let r:=parts key info i;let t:=tag key (r.1++(info++[qh (i+1)]));(t,r.2++t)
def expand(key info:Bytes)(n:Nat):Bytes:=(parts key info ((n+31)/32)).2.take n
theorem parts_length(key info:Bytes):∀i,(parts key info i).2.length=32*i
 |0=>rfl
 |i+1=>by simp[parts,parts_length key info i,tag_length];omega
def forBytes:Bytes:=[115,108,101,100,103,101,32,98,121,116,101,115]
def forTags:Bytes:=[115,108,101,100,103,101,32,116,97,103,115]
def forHeads:Bytes:=[115,108,101,100,103,101,32,104,101,97,100,115]
def encKey(secret salt:Bytes):Bytes:=expand (tag salt secret) forBytes 32
def macKey(secret salt:Bytes):Bytes:=expand (tag salt secret) forTags 32
def headKey(secret:Bytes):Bytes:=expand (tag [] secret) forHeads 32
def fixed(n:Int):Nat→Bytes
 |0=>[]
 |k+1=>fixed (n/256) k++[qh (n%256).toNat]
theorem fixed_length:∀(k:Nat)(n:Int),(fixed n k).length=k
 |0,_=>rfl
 |k+1,n=>by simp[fixed,fixed_length k]
def width(w:Int):Nat:=(min (max w 1) 32).toNat
def msum(w:Int)(l:Bytes):Bytes:=(sum l).take (width w)
def cutF:Nat→Nat→Nat→Nat
 |0,k,_=>k
 |f+1,k,n=>if 2*k<n then cutF f (2*k) n else k
def cut(n:Nat):Nat:=cutF n 1 n
theorem cutF_pos:∀(f k n:Nat),1≤k→1≤cutF f k n
 |0,_,_,h=>h
 |f+1,k,n,h=>by
  unfold cutF
  split
  ·exact cutF_pos f _ n (by omega)
  ·exact h
theorem cutF_lt:∀(f k n:Nat),k<n→cutF f k n<n
 |0,_,_,h=>h
 |f+1,k,n,h=>by
  unfold cutF
  split
  ·exact cutF_lt f _ n (by omega)
  ·exact h
theorem cut_pos(n:Nat):1≤cut n:=cutF_pos _ _ _ (qc _)
theorem cut_lt(n:Nat)(h:2≤n):cut n<n:=cutF_lt _ _ _ (by omega)
end Go.Proofs.YthohbneadomgdaaGreatDoor.Sha
namespace Go.Proofs.YthohbneadomgdaaGreatDoor
open Go.RowKit
theorem SliceOf.litS(w:World)(g:Nat)(hg:g=w.heap.size)(ss:List ByteArray)(T n:Nat)(hn:ss.length=n)(hm:n≤maxLen)(C:Array Value)(hC:C=(ss.map Value.string).toArray):
 SliceOf strS (w.alloc (.cells C T)) (.slice (some ⟨g,0,none⟩) n n) ss:=by
 subst hC hn hg
 refine⟨some ⟨w.heap.size,0,none⟩,ss.length,rfl,.inr ⟨w.heap.size,0,rfl,by simp,qc _,hm,fun i x hx=>⟨_,rfl,fun j c hj=>?_⟩⟩⟩
 cases j with
 |zero=>
  simp only[List.getElem?_cons_zero,Option.some.injEq]at hj
  subst hj
  simp[strS,Shape.flat,hx]
 |succ j=>simp at hj
theorem Uz{P:Program}{w:World}{ops:Array Oper}{rest:List Oper}{o:Oper}{a:Act}{Q:Exit→Act→World→Prop}(hgd:o.guard=none)(d s:Operand)(dT sT:TypeId)
 (ho:o.op=.call { callee:=.builtin .copy,args:=#[d,s],argTypes:=#[dT,sT] }) (elem:TypeId) (hu:P.underlying dT=some (.slice elem)) (hsz:(P.info? elem).map (·.size)=some 1)
 (g off dLen dCap:Nat) (str:ByteArray) (hd:a.eval d=.slice (some ⟨g,off,none⟩) dLen dCap) (hs:a.eval s=.string str)
 (cur:Array Value) (t:TypeId) (hg:w.heap[g]?=some (.cells cur t (0,0))) (hle:str.size≤dLen) (hfit:off+str.size≤cur.size)
 (h:∀wz,wz.heap[g]?=some (.cells (cur.toList.take off++J5 str.data.toList++cur.toList.drop (off+str.size)).toArray t (0,0))→w.grownBy wz (some g)→wpList P ops Q rest (a.put o.dst (goInt str.size)) wz):
 wpList P ops Q (o::rest) a w:=by
 refine wpList_plain hgd fun K hK=>?_
 have E:=Lib.run_copy_row_string (P:=P) w dT sT o.type elem g off dLen dCap str cur t hu hsz hg hle hfit
 unfold Oper.wp execOp
 simp only[ho,resolve,invoke,builtin,Sem.run_bind,Sem.run_pure,Result.andThen_ok,List.map_toArray,List.map_cons,List.map_nil,hd,hs,E]
 exact hK _ _ (h _ (setRow_heap _ _ _ _ _ _ hg) ⟨rfl,rfl,rfl,by simp[World.setRow],fun k _ hk=>setRow_other w g k _ (fun e=>hk (by simp[e]))⟩)
theorem pad_small(k:ByteArray)(m:UInt8)(w:World)(hk:k.size≤64):
 Calls qf 124 #[.string k,.int .u8 m.toNat] w fun e w'=>e=.returned (.string ⟨(Sha.pad k.data.toList m).toArray⟩)∧Below w.heap.size w w':=by
 have ap:¬(64:Int)<k.size:=by omega
 go_enter Tryz.func124,Tryz.ntmps124
 go_wp2_with (refine Uz rfl (.tmp 13) (.tmp 14) 172 9 rfl 5 qe (by kernel_rfl) w.heap.size 0 64 64 k rfl rfl _ _ (JH _ _) hk (by simpa using hk) ?_)
 intro w1 a7 I
 have O:k.data.toList.length=k.size:=by rw[qF];rfl
 have U:Sha.key64 k.data.toList=k.data.toList++qd (64-k.size) 0:=by
  unfold Sha.key64
  simp only[O,show¬64<k.size by omega,if_false]
 have af:w1.heap[w.heap.size]?=some (.cells (J5 (Sha.key64 k.data.toList)).toArray 243 (0,0)):=by
  rw[a7,U]
  congr 2
  have e:∀L:List Value,L=qd 64 (.int .u8 0)→(J5 k.data.toList++List.drop k.size L).toArray=(J5 (k.data.toList++qd (64-k.size) 0)).toArray:=by
   rintro L rfl
   simp only[J5,List.map_append,List.map_replicate,List.drop_replicate]
   rfl
  exact e _ rfl
 have ab:Below w.heap.size w w1:=((Below.refl w.heap.size w).alloc (qc _) _).grown I (by simp) (fun k hk=>by cases hk;exact qc _)
 have ac:(Sha.key64 k.data.toList).length=64:=Sha.key64_length _
 have hA:(J5 (Sha.pad k.data.toList m))=(Sha.key64 k.data.toList).map fun b=>JB (b^^^m):=by simp[J5,Sha.pad]
 generalize hK:Sha.key64 k.data.toList=K at*
 generalize hP:Sha.pad k.data.toList m=pd at*
 have aa:pd.length=64:=by rw[←hP];exact Sha.pad_length _ _
 have HG:=Lib.hid af
 have HB:=Lib.hid ab
 have HA:=Lib.hid hA
 have Y:=Lib.hid ac
 have E:=Lib.hid aa
 have ak:=Lib.hid hP
 clear a7 I O U af ab hK hP hA ac aa
 go_wp2_with fail
 go_loopw [16] (fun i wr=>∃t:Nat,t≤64∧i=.int .i64 t∧Below w.heap.size w wr∧wr.heap[w.heap.size]?=some (.cells ((J5 pd).take t++(J5 K).drop t).toArray 243 (0,0))) (fun i _=>64-(intOf i).toNat)
 case atStart=>exact⟨0,by omega,rfl,HB.out,by simpa using HG.out⟩
 case round=>
  clear HG HB
  obtain⟨t,ht,rfl,hb,Z⟩:=hrel
  have HG:=Lib.hid Z
  have HB:=Lib.hid hb
  clear hb
  by_cases hlt:t<64
  ·have a6:(J5 pd).length=(J5 K).length:=by simp[J5,Y.out,E.out]
   have a2:t<K.length:=by rw[Y.out];exact hlt
   have ae:(J5 K)[t]?=some (.int .u8 (K[t].toNat:Nat)):=by simp[J5,a2,JB]
   have a8:(J5 pd)[t]?=some (.int .u8 ((K[t].toNat^^^m.toNat:Nat):Int)):=by
    rw[HA.out];simp[a2,JB,UInt8.toNat_xor]
   have c:=Ja Z t
   rw[blend_get _ _ _ a6 (by simp[J5,E.out];omega),ae]at c
   have z:=Jh Z t
   have hx:=u8_xor_nat K[t].toNat m.toNat K[t].toNat_lt m.toNat_lt
   generalize K[t].toNat=kb at*
   have ah:=Lib.hid a6
   have ai:=Lib.hid a8
   have ao:(t:Int)<64:=by omega
   clear Z a6 ae a8 a2
   go_wp2
   go_roundw
   case rel=>
    refine⟨t+1,by omega,by go_num,HB.out.setCell (qc _) _,?_⟩
    rw[heap_setCell HG.out,blend_set _ _ _ ah.out _ ai.out]
   case measure=>simp[intOf];omega
  ·have et:t=64:=by omega
   rw[et,qp (by simp[J5,E.out]),List.drop_of_length_le (by simp[J5,Y.out]),qy]at Z
   have aj:=run_convert_bytes_back (P:=qf) wr 172 9 5 ⟨w.heap.size,0,none⟩ 64 pd qe Tryz.underlying5 qD (fun j hj=>by
    rw[cells_add Z];simp[J5,JB,hj])
   rw[E.out]at aj
   clear Z et
   go_wp2
   go_ret
   exact⟨by rw[ak.out];rfl,HB.out⟩
theorem pad_big(k:ByteArray)(m:UInt8)(w:World)(hk:64<k.size)(hk2:k.size≤140737488355200):
 Calls qf 124 #[.string k,.int .u8 m.toNat] w fun e w'=>e=.returned (.string ⟨(Sha.pad k.data.toList m).toArray⟩)∧Below w.heap.size w w':=by
 have aG:(64:Int)<k.size:=by omega
 have Y:k.data.toList.length=k.size:=by rw[qF];rfl
 have hj:Jw [k]=k.data.toList:=by simp[Jw]
 obtain⟨str,E⟩:∃str:ByteArray,str=⟨(Sha.sum k.data.toList).toArray⟩:=⟨_,rfl⟩
 have ag:str.size=32:=by rw[E];show(Sha.sum k.data.toList).toArray.size=32;simp[Sha.sum_length]
 have al:str.data.toList=Sha.sum k.data.toList:=by rw[E]
 have ah:=Lib.hid E
 have a7:=Lib.hid ag
 have az:=Lib.hid al
 have HJ:=Lib.hid hj
 have U:=Lib.hid Y
 clear E ag al hj Y
 go_enter Tryz.func124,Tryz.ntmps124
 go_wp2_with fail
 refine(shasum_any (.slice (some ⟨w.heap.size+1,0,none⟩) 1 1) [k] _ (SliceOf.litS _ _ (by simp) [k] 9 1 rfl (by decide) #[.string k] rfl) (by simp[maxLen]) (by rw[HJ.out,U.out];exact hk2)).mono ?_
 rintro e w0 ⟨rfl,a6⟩
 rw[HJ.out,←ah.out]
 have an:w0.heap[w.heap.size]?=some (.cells (qd 64 (.int .u8 0)).toArray 243 (0,0)):=JJ (QJ (JH _ _)) a6
 have ai:Below w.heap.size w w0:=(((Below.refl w.heap.size w).alloc (qc _) _).alloc (by simp) _).trans (a6.mono (by simp;omega))
 have au:=Lib.hid an
 have af:=Lib.hid ai
 clear an ai a6
 go_wp2_with (refine Uz rfl (.tmp 13) (.tmp 14) 172 9 rfl 5 qe (by kernel_rfl) w.heap.size 0 64 64 str rfl rfl _ _ au.out (by rw[a7.out];decide) (by rw[a7.out];decide) ?_)
 intro w1 ac O
 have Z:Sha.key64 k.data.toList=str.data.toList++qd (64-str.size) 0:=by
  unfold Sha.key64
  simp only[U.out,show 64<k.size by omega,if_true]
  rw[az.out,Sha.sum_length,a7.out]
 have ap:w1.heap[w.heap.size]?=some (.cells (J5 (Sha.key64 k.data.toList)).toArray 243 (0,0)):=by
  rw[ac,Z]
  congr 2
  have e:∀L:List Value,L=qd 64 (.int .u8 0)→(J5 str.data.toList++List.drop str.size L).toArray=(J5 (str.data.toList++qd (64-str.size) 0)).toArray:=by
   rintro L rfl
   simp only[J5,List.map_append,List.map_replicate,List.drop_replicate]
   rfl
  exact e _ rfl
 have aj:Below w.heap.size w w1:=af.out.grown O af.out.size (fun k hk=>by cases hk;exact qc _)
 have ak:(Sha.key64 k.data.toList).length=64:=Sha.key64_length _
 have hA:(J5 (Sha.pad k.data.toList m))=(Sha.key64 k.data.toList).map fun b=>JB (b^^^m):=by simp[J5,Sha.pad]
 generalize hK:Sha.key64 k.data.toList=K at*
 generalize hP:Sha.pad k.data.toList m=pd at*
 have ae:pd.length=64:=by rw[←hP];exact Sha.pad_length _ _
 have HG:=Lib.hid ap
 have HB:=Lib.hid aj
 have HA:=Lib.hid hA
 have a2:=Lib.hid ak
 have I:=Lib.hid ae
 have ay:=Lib.hid hP
 clear ac O Z ap aj hK hP hA ak ae
 go_wp2_with fail
 go_loopw [16] (fun i wr=>∃t:Nat,t≤64∧i=.int .i64 t∧Below w.heap.size w wr∧wr.heap[w.heap.size]?=some (.cells ((J5 pd).take t++(J5 K).drop t).toArray 243 (0,0))) (fun i _=>64-(intOf i).toNat)
 case atStart=>exact⟨0,by omega,rfl,HB.out,by simpa using HG.out⟩
 case round=>
  clear HG HB
  obtain⟨t,ht,rfl,hb,hg⟩:=hrel
  have HG:=Lib.hid hg
  have HB:=Lib.hid hb
  clear hb
  by_cases hlt:t<64
  ·have ab:(J5 pd).length=(J5 K).length:=by simp[J5,a2.out,I.out]
   have aa:t<K.length:=by rw[a2.out];exact hlt
   have ao:(J5 K)[t]?=some (.int .u8 (K[t].toNat:Nat)):=by simp[J5,aa,JB]
   have ad:(J5 pd)[t]?=some (.int .u8 ((K[t].toNat^^^m.toNat:Nat):Int)):=by
    rw[HA.out];simp[aa,JB,UInt8.toNat_xor]
   have c:=Ja hg t
   rw[blend_get _ _ _ ab (by simp[J5,I.out];omega),ao]at c
   have z:=Jh hg t
   have hx:=u8_xor_nat K[t].toNat m.toNat K[t].toNat_lt m.toNat_lt
   generalize K[t].toNat=kb at*
   have av:=Lib.hid ab
   have aw:=Lib.hid ad
   have aF:(t:Int)<64:=by omega
   clear hg ab ao ad aa
   go_wp2
   go_roundw
   case rel=>
    refine⟨t+1,by omega,by go_num,HB.out.setCell (qc _) _,?_⟩
    rw[heap_setCell HG.out,blend_set _ _ _ av.out _ aw.out]
   case measure=>simp[intOf];omega
  ·have et:t=64:=by omega
   rw[et,qp (by simp[J5,I.out]),List.drop_of_length_le (by simp[J5,a2.out]),qy]at hg
   have ax:=run_convert_bytes_back (P:=qf) wr 172 9 5 ⟨w.heap.size,0,none⟩ 64 pd qe Tryz.underlying5 qD (fun j hj=>by
    rw[cells_add hg];simp[J5,JB,hj])
   rw[I.out]at ax
   clear hg et
   go_wp2
   go_ret
   exact⟨by rw[ay.out];rfl,HB.out⟩
theorem pad_any(k:ByteArray)(m:UInt8)(w:World)(hk2:k.size≤140737488355200):
 Calls qf 124 #[.string k,.int .u8 m.toNat] w fun e w'=>e=.returned (.string ⟨(Sha.pad k.data.toList m).toArray⟩)∧Below w.heap.size w w':=by
 by_cases hk:k.size≤64
 ·exact pad_small k m w hk
 ·exact pad_big k m w (by omega) hk2
theorem tag_any(k:ByteArray)(v:Value)(ss:List ByteArray)(w:World)(hs:SliceOf strS w v ss)(hk:k.size≤140737488355200)(hlen:ss.length≤maxLen)(hsz:(Jw ss).length≤140737488355000):
 Calls qf 68 #[.string k,v] w fun e w'=>e=.returned (.string (str (Sha.tag k.data.toList (Jw ss))))∧Below w.heap.size w w':=by
 obtain⟨a,cap,rfl,he⟩:=hs
 unfold maxLen at hlen
 have HE:=Lib.hid he
 clear he
 go_enter Tryz.func68,Tryz.ntmps68
 go_wp2_with fail
 refine(new_any _).mono ?_
 rintro e w1 ⟨rfl,hh,hb⟩
 have HH:=Lib.hid hh
 have HB:=Lib.hid hb
 clear hh hb
 go_wp2_with fail
 refine(pad_any k 54 _ hk).mono ?_
 rintro e w2 ⟨rfl,a6⟩
 have ao:=HB.out.size
 have am:=Lib.hid (HH.out.below a6)
 have a8:=Lib.hid (HB.out.trans (a6.mono ao))
 clear HH HB a6
 have U:(Sha.pad k.data.toList 54).length=64:=Sha.pad_length _ _
 have HP:=Lib.hid U
 clear U
 go_wp2_with fail
 refine(write_any w.heap.size w.heap.size [] (str (Sha.pad k.data.toList 54)) _ a8.out.size (by rw[str_size,HP.out];decide) am.out).mono ?_
 rintro e w3 ⟨rfl,a7,ai⟩
 rw[List.nil_append,str_data]at a7
 have aj:=Lib.hid a7
 have ad:=Lib.hid (a8.out.trans ai)
 clear a7 ai am a8
 go_wp2_with fail
 go_loopw [15] (fun i wr=>∃n:Nat,n≤ss.length∧i=.int .i64 n∧Below w.heap.size w wr∧HashAt w.heap.size wr w.heap.size (Sha.pad k.data.toList 54++Jw (ss.take n))) (fun i _=>ss.length-(intOf i).toNat)
 case atStart=>exact⟨0,Nat.zero_le _,rfl,ad.out,by simpa[Jw]using aj.out⟩
 case round=>
  clear aj ad
  obtain⟨n,hn,rfl,hb,hh⟩:=hrel
  have HH:=Lib.hid hh
  have HB:=Lib.hid hb
  have Z:=hb.size
  clear hh
  by_cases hlt:n<ss.length
  ·obtain⟨b,ay,rfl,aC,hc⟩:=(HE.out.mono hb).str hlt
   have ar:=joined_le ss n hlt
   clear hb
   go_wp2_with fail
   refine(write_any w.heap.size w.heap.size (Sha.pad k.data.toList 54++Jw (ss.take n)) ss[n] _ Z (by rw[qB,HP.out];omega) HH.out).mono ?_
   rintro e w4 ⟨rfl,ae,E⟩
   have O:=Lib.hid ae
   have I:=Lib.hid (HB.out.trans E)
   clear ae E ar
   go_wp2_with fail
   go_roundw
   case rel=>exact⟨n+1,by omega,by go_num,I.out,by rw[joined_take ss n hlt,←List.append_assoc];exact O.out⟩
   case measure=>simp[intOf];omega
  ·have en:n=ss.length:=by omega
   have Y:Hid (Jw (ss.take n)=Jw ss):=by show _=_;rw[en,List.take_length]
   clear hb en
   go_wp2_with fail
   refine(pad_any k 92 _ hk).mono ?_
   rintro e w4 ⟨rfl,E⟩
   have O:=Lib.hid (HH.out.below E)
   have I:=Lib.hid (HB.out.trans (E.mono Z))
   have ak:=I.out.size
   clear E HH HB
   go_wp2_with fail
   refine(hsum_any w.heap.size w.heap.size (Sha.pad k.data.toList 54++Jw (ss.take n)) _ (by rw[Y.out,qB,HP.out];omega) O.out).mono ?_
   rintro e w5 ⟨rfl,ag⟩
   rw[Y.out]
   have af:=Lib.hid (I.out.trans (ag.mono ak))
   have ac:=af.out.size
   clear ag O I
   have a2:(Sha.pad k.data.toList 92).length=64:=Sha.pad_length _ _
   have al:(Sha.sum (Sha.pad k.data.toList 54++Jw ss)).length=32:=Sha.sum_length _
   have hj:Jw [str (Sha.pad k.data.toList 92),str (Sha.sum (Sha.pad k.data.toList 54++Jw ss))]=Sha.pad k.data.toList 92++Sha.sum (Sha.pad k.data.toList 54++Jw ss):=by simp[Jw,str]
   have HJ:=Lib.hid hj
   have an:=Lib.hid (show(Jw [str (Sha.pad k.data.toList 92),str (Sha.sum (Sha.pad k.data.toList 54++Jw ss))]).length≤140737488355200 by rw[hj,qB,a2,al];decide)
   clear hj a2 al
   go_wp2_with fail
   refine(shasum_any (.slice (some ⟨w5.heap.size,0,none⟩) 2 2) [str (Sha.pad k.data.toList 92),str (Sha.sum (Sha.pad k.data.toList 54++Jw ss))] _ (SliceOf.litS _ _ rfl _ 9 2 rfl (by decide) _ rfl) (by simp[maxLen]) an.out).mono ?_
   rintro e w6 ⟨rfl,au⟩
   rw[HJ.out]
   go_wp2_with fail
   go_ret
   exact⟨rfl,af.out.trans (((Below.refl w.heap.size w5).alloc ac _).trans (au.mono (by simp;omega)))⟩
end Go.Proofs.YthohbneadomgdaaGreatDoor
