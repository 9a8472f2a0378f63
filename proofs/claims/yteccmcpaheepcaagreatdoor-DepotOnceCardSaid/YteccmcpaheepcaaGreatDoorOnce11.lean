/-
  The walks of header: it is verified.
-/
import Derived.Test.YteccmcpaheepcaaGreatDoorOnce10
import Derived.Deep.RegionHeld3
import Derived.Test.YteccmcpaheepcaaGreatDoorOnce03
import Derived.Deep.CutRange
set_option linter.unusedSimpArgs false
set_option linter.unusedVariables false
set_option linter.unusedSectionVars false
set_option linter.unnecessarySimpa false
set_option linter.defProp false
set_option maxRecDepth 100000
set_option maxHeartbeats 16000000
open Nat renaming reduceLT → yQ, reduceEqDiff → yK, reduceAdd → yV, reduceSub → yY, reduceMul → yU
open Int renaming reduceToNat → yW, reduceLE → yX, reduceEq → yZ, reduceLT → yJ
open Go.Proofs.Tryz renaming prog → qc, underlying33 → qe, results149 → qh
open UInt8 renaming ofNat → qd
open Nat renaming le_refl → qf
namespace Go.Proofs.YteccmcpaheepcaaGreatDoor
open Go.RowKit
theorem Header.check_cases(h:Header):h.check=1∨(h.check=0∧h.salt.size=16∧h.root.size=32∧h.tag.size=32):=by
 unfold Header.check
 repeat(split; ·exact .inl rfl)
 exact .inr ⟨rfl,by omega,by omega,by omega⟩
def Header.verify(key:List UInt8)(h:Header):Int:=if h.check=1 then 1 else if sameB (Sha.tag key h.fields.data.toList) h.tag.data.toList then 0 else 4
theorem Header.fields_size(h:Header):h.fields.size=18+h.salt.size+h.root.size:=by
 simp only[Header.fields,ByteArray.size_append,str_size,Sha.fixed_length]
 have:(ByteArray.mk #[83,76,71,49]).size=4:=rfl
 omega
theorem keep_cells{w w':World}{g:Nat}(hb:Below w.heap.size w w')(h:g<w.heap.size)(k:Nat):w'.cell? ⟨g,k,none⟩=w.cell? ⟨g,k,none⟩:=hb.cell h
theorem keep_below{w w1 w2:World}(hb:Below w1.heap.size w1 w2)(h:Below w.heap.size w w1):Below w.heap.size w w2:=h.trans (hb.mono h.size)
theorem Kp{w w1:World}{o:Obj}(h:Below w.heap.size w w1):Below w.heap.size w (w1.alloc o):=h.alloc h.size o
theorem Uf{w w1:World}(h:Below w.heap.size w w1):Below w.heap.size w w1.drew:=h.trans ((Same.drew w1).below _)
theorem verify_any(key:ByteArray)(h:Header)(w:World)(hk:key.size≤140737488355200):
 Calls qc 56 #[.string key,h.val] w fun e w'=>e=.returned (.int .i64 (h.verify key.data.toList))∧Below w.heap.size w w':=by
 have hch:=fun w=>check_any h w
 have hfl:=fun a b w=>fields_any h a b w
 have hfs:=h.fields_size
 obtain⟨r,hr⟩:∃r,r=h.verify key.data.toList:=⟨_,rfl⟩
 rw[←hr]
 simp only[Header.verify]at hr
 have hcc:=h.check_cases
 generalize h.check=c at*
 generalize h.fields=fl at*
 obtain⟨id,salt,n,bytes,raw,root,tag⟩:=h
 simp only[Header.val]at*
 have HC:=Lib.hid hch
 have HF:=Lib.hid hfl
 clear hch hfl
 go_enter Tryz.func56,Tryz.ntmps56
 go_wp2_with fail
 refine(HC.out _).mono ?_
 rintro e w1 ⟨rfl,hb1⟩
 have hg1:=JG (JE w _) hb1
 have hB1:=((Below.refl w.heap.size w).alloc (qf _) (.cells #[.int .i64 id,.string salt,.int .i64 n,.int .i64 bytes,.int .i64 raw,.string root,.string tag] 33 (0,0))).trans (hb1.mono (by simp))
 have hs1:w.heap.size<w1.heap.size:=QJ hg1
 clear hb1
 rcases hcc with rfl|⟨rfl,e1,e2,e3⟩
 ·rw[if_pos rfl]at hr
  subst hr
  have HB:=Lib.hid hB1
  clear hB1 hg1
  go_wp2_with fail
  go_ret
  exact⟨rfl,HB.out⟩
 rw[if_neg (by decide)]at hr
 have c0:=J7 hg1 0
 have c1:=J7 hg1 1
 have c2:=J7 hg1 2
 have c3:=J7 hg1 3
 have c4:=J7 hg1 4
 have c5:=J7 hg1 5
 have c6:=J7 hg1 6
 simp at c0 c1 c2 c3 c4 c5 c6
 have HB:=Lib.hid hB1
 have HR:=Lib.hid hr
 clear hB1 hg1 hr
 go_wp2_with fail
 have HB':=HB.out
 have hJ0:Ju [fl]=fl.data.toList:=by simp[Ju]
 have hJ:(Ju [fl]).length≤140737488355000:=by rw[hJ0,Array.length_toList];show fl.size≤_;omega
 go_region_held3 (fun w'=>w'.cell? ⟨w.heap.size,0,none⟩=some (.int .i64 id)∧w'.cell? ⟨w.heap.size,1,none⟩=some (.string salt)∧w'.cell? ⟨w.heap.size,2,none⟩=some (.int .i64 n)∧w'.cell? ⟨w.heap.size,3,none⟩=some (.int .i64 bytes)∧w'.cell? ⟨w.heap.size,4,none⟩=some (.int .i64 raw)∧w'.cell? ⟨w.heap.size,5,none⟩=some (.string root)∧w'.cell? ⟨w.heap.size,6,none⟩=some (.string tag)∧Below w.heap.size w w') (simp[*,World.cell?_alloc_some,World.cell?_setCell_far,Kp,Uf])
  ((first
    |(go_at_call 135;refine(HF.out (by omega) (by omega) _).mono ?_;rintro e w2 ⟨rfl,hb2⟩;have hk2:=keep_cells hb2 (World.block_lt_of_cell? _ ⟨w.heap.size,0,none⟩ (u:=.int .i64 id) (by simp[*]));have hB2:=keep_below (w:=w) hb2 (by simp[*,Uf]))
    |(go_at_call 134;refine(tag_any key _ [fl] _ (SliceOf.litS _ _ rfl [fl] 9 1 rfl (by decide) #[.string fl] rfl) (by omega) (by simp[maxLen]) hJ).mono ?_;rintro e w3 ⟨rfl,hb3⟩;have hk3:=keep_cells hb3 (World.block_lt_of_cell? _ ⟨w.heap.size,0,none⟩ (u:=.int .i64 id) (by simp[*,World.cell?_alloc_some]));have hB3:=keep_below (w:=w) hb3 (by simp[*,Uf,Kp]))
    |(go_at_call 133;refine(equal_any _ tag _ (by rw[str_size,Sha.tag_length];decide) (by omega)).mono ?_;rintro e w4 ⟨rfl,hb4⟩;have hk4:=keep_cells hb4 (World.block_lt_of_cell? _ ⟨w.heap.size,0,none⟩ (u:=.int .i64 id) (by simp[*,World.cell?_alloc_some]));have hB4:=keep_below (w:=w) hb4 (by simp[*,Uf,Kp]))))
 have HB4:=Lib.hid hB4
 clear hk2 hk3 hk4 hb2 hb3 hb4 hB2 hB3 hB4 HB HB' hJ hJ0 HC HF
 have hR:=HR.out
 clear HR
 have es:(str (Sha.tag key.data.toList fl.data.toList)).data.toList=Sha.tag key.data.toList fl.data.toList:=rfl
 rw[es]
 clear es
 generalize(str (Sha.tag key.data.toList fl.data.toList))=st
 generalize sameB (Sha.tag key.data.toList fl.data.toList) tag.data.toList=b at*
 cases b
 ·rw[if_neg (by decide)]at hR;subst hR
  go_wp2;go_ret;exact⟨rfl,HB4.out⟩
 ·rw[if_pos rfl]at hR;subst hR
  go_wp2;go_ret;exact⟨rfl,HB4.out⟩
theorem hnum_any(g:Nat)(s:ByteArray)(T:TypeId)(k:Nat)(hk1:1≤k)(hk:k≤6)(hs:k≤s.size)(hsz:s.size≤140737488355327)(w:World)(hg:w.heap[g]?=some (.cells #[.string s] T (0,0))):
 Calls qc 235 #[.int .i64 k,.pointer (some ⟨g,0,none⟩)] w fun e w'=>e=.returned (.int .i64 (Sha.num (s.data.toList.take k):Nat))∧∃w1,Below w.heap.size w w1∧w'=w1.setCell ⟨g,0,none⟩ (.string (s.extract k s.size)):=by
 have c:=J7 hg 0
 simp at c
 have HG:=Lib.hid hg
 clear hg
 go_enter Tryz.func235,Tryz.ntmps235
 go_wp2_with fail
 refine(take_any s k hk1 hk hs hsz _).mono ?_
 rintro e w1 ⟨rfl,hb1⟩
 have hg1:=JG HG.out hb1
 have c1:=J7 hg1 0
 have z1:=Jg hg1 0
 simp at c1
 have HB:=Lib.hid hb1
 clear hg1 hb1 HG c
 go_wp2
 go_ret
 exact⟨rfl,w1,HB.out,rfl⟩
theorem htext_any(g:Nat)(s:ByteArray)(T:TypeId)(k:Nat)(hs:k≤s.size)(hsz:s.size≤140737488355327)(w:World)(hg:w.heap[g]?=some (.cells #[.string s] T (0,0))):
 Calls qc 236 #[.int .i64 k,.pointer (some ⟨g,0,none⟩)] w fun e w'=>e=.returned (.string (s.extract 0 k))∧w'=w.setCell ⟨g,0,none⟩ (.string (s.extract k s.size)):=by
 have c:=J7 hg 0
 have z:=Jg hg 0
 simp at c
 have HG:=Lib.hid hg
 clear hg
 have k4:(k:Int)≤s.size:=by omega
 have k0:(0:Int)≤k:=by omega
 go_enter Tryz.func236,Tryz.ntmps236
 go_wp2_with fail
 go_ret
 exact⟨rfl,rfl⟩
def Zf:Array Value:=#[.int .i64 0,.string ⟨#[]⟩,.int .i64 0,.int .i64 0,.int .i64 0,.string ⟨#[]⟩,.string ⟨#[]⟩]
structure TakeAt(w W:World)(cur:ByteArray)(C:Array Value):Prop where
 below:Below w.heap.size w W
 cur:W.heap[w.heap.size]?=some (.cells #[.string cur] 9 (0,0))
 z:W.heap[w.heap.size+1]?=some (.cells Zf 33 (0,0))
 h:W.heap[w.heap.size+1+1]?=some (.cells C 33 (0,0))
theorem TakeAt.after{w W w1:World}{cur:ByteArray}{C:Array Value}(t:TakeAt w W cur C)(hb:Below W.heap.size W w1):TakeAt w w1 cur C:=
 ⟨t.below.trans (hb.mono t.below.size),JG t.cur hb,JG t.z hb,JG t.h hb⟩
theorem TakeAt.put{w W:World}{cur:ByteArray}{C:Array Value}(t:TakeAt w W cur C)(c:ByteArray):TakeAt w (W.setCell ⟨w.heap.size,0,none⟩ (.string c)) c C:=
 ⟨t.below.setCell (qf _) _,heap_setCell t.cur _ _,by rw[JI (by simp)];exact t.z,by rw[JI (by simp;omega)];exact t.h⟩
theorem TakeAt.store{w W:World}{cur:ByteArray}{C:Array Value}(t:TakeAt w W cur C)(k:Nat)(v:Value):TakeAt w (W.setCell ⟨w.heap.size+1+1,k,none⟩ v) cur (C.setIfInBounds k v):=
 ⟨t.below.setCell (by simp;omega) _,by rw[JI (by simp;omega)];exact t.cur,by rw[JI (by simp)];exact t.z,heap_setCell t.h _ _⟩
theorem cut_size(s:ByteArray)(hs:s.size=98)(a:Nat):(s.extract a 98).size=98-a:=by simp;omega
theorem cut_cut(s:ByteArray)(hs:s.size=98)(a k:Nat)(h:a+k≤98):(s.extract a 98).extract k (s.extract a 98).size=s.extract (a+k) 98:=by
 rw[cut_size s hs,ByteArray.extract_extract];congr 1;omega
theorem cut_head(s:ByteArray)(hs:s.size=98)(a k:Nat)(h:a+k≤98):(s.extract a 98).extract 0 k=s.extract a (a+k):=by
 rw[ByteArray.extract_extract];congr 1;omega
def numAt(s:ByteArray)(a k:Nat):Nat:=Sha.num ((s.extract a 98).data.toList.take k)
theorem hnum_at(w W:World)(s:ByteArray)(hs:s.size=98)(a k:Nat)(hk1:1≤k)(hk:k≤6)(ha:a+k≤98)(C:Array Value)(t:TakeAt w W (s.extract a 98) C):
 Calls qc 235 #[.int .i64 k,.pointer (some ⟨w.heap.size,0,none⟩)] W fun e w'=>e=.returned (.int .i64 (numAt s a k:Nat))∧TakeAt w w' (s.extract (a+k) 98) C:=by
 refine(hnum_any w.heap.size (s.extract a 98) _ k hk1 hk (by rw[cut_size s hs];omega) (by rw[cut_size s hs];omega) W t.cur).mono ?_
 rintro e w' ⟨rfl,w1,hb,rfl⟩
 rw[cut_cut s hs a k ha]
 exact⟨rfl,(t.after hb).put _⟩
theorem htext_at(w W:World)(s:ByteArray)(hs:s.size=98)(a k:Nat)(ha:a+k≤98)(C:Array Value)(t:TakeAt w W (s.extract a 98) C):
 Calls qc 236 #[.int .i64 k,.pointer (some ⟨w.heap.size,0,none⟩)] W fun e w'=>e=.returned (.string (s.extract a (a+k)))∧TakeAt w w' (s.extract (a+k) 98) C:=by
 refine(htext_any w.heap.size (s.extract a 98) _ k (by rw[cut_size s hs];omega) (by rw[cut_size s hs];omega) W t.cur).mono ?_
 rintro e w' ⟨rfl,rfl⟩
 rw[cut_cut s hs a k ha,cut_head s hs a k ha]
 exact⟨rfl,t.put _⟩
theorem XI{P:Program}{fn:Func}{p t2:Tmp}{ty:TypeId}(h:fn.results=#[.cell p ty,.tmp t2])(tmps:Array Value)(w:World)(g:Nat)(t:TypeId)(cs:Array Value)(fr:Nat×Nat)(d:TypeDesc)
 (hp:tmps.getD p undef=.pointer (some ⟨g,0,none⟩)) (hg:w.heap[g]?=some (.cells cs t fr))
 (hu:P.underlying ty=some d) (hd:(match d with|.struct _|.array _ _=>true|_=>false)=true) (hi:(P.info? ty).map (·.size)=some cs.size):
 (results fn tmps).run P w=.ok (.tuple #[.agg cs,tmps.getD t2 undef]) w:=by
 have hp':tmps[p]?.getD undef=.pointer (some ⟨g,0,none⟩):=by simpa using hp
 simp[results,h,hp',asAddr,run_loadVar_row w g t ty cs fr d hg hu hd hi]
theorem TakeAt.row{w W:World}{cur:ByteArray}{C:Array Value}(t:TakeAt w W cur C)(v0 v1 v2 v3 v4 v5 v6:Value):
 Below w.heap.size w (((((((W.setCell ⟨w.heap.size+1,0,none⟩ v0).setCell ⟨w.heap.size+1,1,none⟩ v1).setCell ⟨w.heap.size+1,2,none⟩ v2).setCell ⟨w.heap.size+1,3,none⟩ v3).setCell ⟨w.heap.size+1,4,none⟩ v4).setCell ⟨w.heap.size+1,5,none⟩ v5).setCell ⟨w.heap.size+1,6,none⟩ v6)∧
 (((((((W.setCell ⟨w.heap.size+1,0,none⟩ v0).setCell ⟨w.heap.size+1,1,none⟩ v1).setCell ⟨w.heap.size+1,2,none⟩ v2).setCell ⟨w.heap.size+1,3,none⟩ v3).setCell ⟨w.heap.size+1,4,none⟩ v4).setCell ⟨w.heap.size+1,5,none⟩ v5).setCell ⟨w.heap.size+1,6,none⟩ v6).heap[w.heap.size+1]?=some (.cells #[v0,v1,v2,v3,v4,v5,v6] 33 (0,0)):=by
 have hl:w.heap.size≤w.heap.size+1:=Nat.le_succ _
 exact⟨((((((t.below.setCell hl _).setCell hl _).setCell hl _).setCell hl _).setCell hl _).setCell hl _).setCell hl _,
  heap_setCell (heap_setCell (heap_setCell (heap_setCell (heap_setCell (heap_setCell (heap_setCell t.z 0 v0) 1 v1) 2 v2) 3 v3) 4 v4) 5 v5) 6 v6⟩
def Zr(s:ByteArray):Header:=⟨numAt s 4 4,s.extract 8 24,numAt s 24 2,numAt s 26 4,numAt s 30 4,s.extract 34 66,s.extract 66 98⟩
def htakeV(s:ByteArray):Value:=if(Zr s).check=1 then .tuple #[.agg Zf,.int .i64 2]else .tuple #[(Zr s).val,.int .i64 0]
theorem htake_in(s:ByteArray)(hs:s.size=98)(hm:s.extract 0 4=⟨#[83,76,71,49]⟩)(w:World):
 Calls qc 149 #[.string s] w fun e w'=>e=.returned (htakeV s)∧Below w.heap.size w w':=by
 have hs':(s.size:Int)=98:=by omega
 have hv:htakeV s=if(Zr s).check=1 then .tuple #[.agg Zf,.int .i64 2]else .tuple #[(Zr s).val,.int .i64 0]:=rfl
 generalize htakeV s=V at*
 have HV0:=Lib.hid hv
 clear hv
 have num:=fun W=>hnum_at w W s hs
 have text:=fun W=>htext_at w W s hs
 have NUM:=Lib.hid num
 have TEXT:=Lib.hid text
 clear num text
 go_enter Tryz.func149,Tryz.ntmps149
 go_wp2_with fail
 refine(NUM.out _ 4 4 (by decide) (by decide) (by decide) Zf ?_).mono ?_
 ·refine⟨(((Below.refl w.heap.size w).alloc (qf _) _).alloc (by simp) _).alloc (by simp;omega) _,?_,?_,?_⟩
  ·exact QF (QF (JE _ _))
  ·exact QF (QY (by simp) _)
  ·exact QY (by simp) _
 rintro e W1 ⟨rfl,t1⟩
 have c1:=Jg t1.h 0
 have d1:=J7 t1.h 0
 simp[Zf]at d1
 have T1:=Lib.hid t1
 clear t1
 go_wp2_with fail
 refine(TEXT.out _ 8 16 (by decide) _ (T1.out.store 0 _)).mono ?_
 rintro e W2 ⟨rfl,t2⟩
 have z2:=Jg t2.h 1
 have d2:=J7 t2.h 1
 simp[Zf]at d2
 have T2:=Lib.hid t2
 clear t2 T1 c1 d1
 go_wp2_with fail
 refine(NUM.out _ 24 2 (by decide) (by decide) (by decide) _ (T2.out.store 1 _)).mono ?_
 rintro e W3 ⟨rfl,t3⟩
 have z3:=Jg t3.h 2
 have d3:=J7 t3.h 2
 simp[Zf]at d3
 have T3:=Lib.hid t3
 clear t3 T2 z2 d2
 go_wp2_with fail
 refine(NUM.out _ 26 4 (by decide) (by decide) (by decide) _ (T3.out.store 2 _)).mono ?_
 rintro e W4 ⟨rfl,t4⟩
 have z4:=Jg t4.h 3
 have d4:=J7 t4.h 3
 simp[Zf]at d4
 have T4:=Lib.hid t4
 clear t4 T3 z3 d3
 go_wp2_with fail
 refine(NUM.out _ 30 4 (by decide) (by decide) (by decide) _ (T4.out.store 3 _)).mono ?_
 rintro e W5 ⟨rfl,t5⟩
 have z5:=Jg t5.h 4
 have d5:=J7 t5.h 4
 simp[Zf]at d5
 have T5:=Lib.hid t5
 clear t5 T4 z4 d4
 go_wp2_with fail
 refine(TEXT.out _ 34 32 (by decide) _ (T5.out.store 4 _)).mono ?_
 rintro e W6 ⟨rfl,t6⟩
 have z6:=Jg t6.h 5
 have d6:=J7 t6.h 5
 simp[Zf]at d6
 have T6:=Lib.hid t6
 clear t6 T5 z5 d5
 go_wp2_with fail
 refine(TEXT.out _ 66 32 (by decide) _ (T6.out.store 5 _)).mono ?_
 rintro e W7 ⟨rfl,t7⟩
 have z7:=Jg t7.h 6
 have y0:=J7 t7.h 0
 have y1:=J7 t7.h 1
 have y2:=J7 t7.h 2
 have y3:=J7 t7.h 3
 have y4:=J7 t7.h 4
 have y5:=J7 t7.h 5
 have y6:=J7 t7.h 6
 simp[Zf]at y0 y1 y2 y3 y4 y5 y6
 have T7:=Lib.hid t7
 clear t7 T6 z6 d6
 go_wp2_with fail
 have T8:=Lib.hid (T7.out.store 6 (.string (s.extract 66 98)))
 clear T7
 refine(check_any (Zr s) _).mono ?_
 rintro e W8 ⟨rfl,hb8⟩
 have T9:=Lib.hid (T8.out.after hb8)
 have hg1:=T9.out.z
 have q0:=J7 hg1 0
 have q1:=J7 hg1 1
 have q2:=J7 hg1 2
 have q3:=J7 hg1 3
 have q4:=J7 hg1 4
 have q5:=J7 hg1 5
 have q6:=J7 hg1 6
 have f0:=Jg hg1 0
 have f1:=Jg hg1 1
 have f2:=Jg hg1 2
 have f3:=Jg hg1 3
 have f4:=Jg hg1 4
 have f5:=Jg hg1 5
 have f6:=Jg hg1 6
 have hg2:=T9.out.h
 have x0:=J7 hg2 0
 have x1:=J7 hg2 1
 have x2:=J7 hg2 2
 have x3:=J7 hg2 3
 have x4:=J7 hg2 4
 have x5:=J7 hg2 5
 have x6:=J7 hg2 6
 simp[Zf]at q0 q1 q2 q3 q4 q5 q6 x0 x1 x2 x3 x4 x5 x6
 clear hb8 T8 y0 y1 y2 y3 y4 y5 y6 z7 hg1 hg2
 have hv:=HV0.out
 clear HV0
 have hcc:=(Zr s).check_cases
 generalize hc0:(Zr s).check=c0 at*
 rcases hcc with rfl|⟨rfl, -⟩
 ·rw[if_pos rfl]at hv
  have HV:=Lib.hid hv
  clear hv hc0
  go_wp2_with fail
  have R:=T9.out.row (.int .i64 0) (.string ⟨#[]⟩) (.int .i64 0) (.int .i64 0) (.int .i64 0) (.string ⟨#[]⟩) (.string ⟨#[]⟩)
  refine bodyPost_ret (v:=.tuple #[.agg Zf,.int .i64 2]) ?r ?d ?fin
  case fin=>exact⟨by rw[HV.out],R.1⟩
  case d=>rfl
  case r=>exact XI qh _ _ (w.heap.size+1) _ _ (0,0) _ rfl R.2 qe rfl (by kernel_rfl)
 ·rw[if_neg (by decide)]at hv
  have HV:=Lib.hid hv
  clear hv hc0
  go_wp2_with fail
  have R:=T9.out.row (.int .i64 (numAt s 4 4)) (.string (s.extract 8 24)) (.int .i64 (numAt s 24 2)) (.int .i64 (numAt s 26 4)) (.int .i64 (numAt s 30 4)) (.string (s.extract 34 66)) (.string (s.extract 66 98))
  refine bodyPost_ret (v:=.tuple #[(Zr s).val,.int .i64 0]) ?r ?d ?fin
  case fin=>exact⟨by rw[HV.out],R.1⟩
  case d=>rfl
  case r=>exact XI qh _ _ (w.heap.size+1) _ _ (0,0) _ rfl R.2 qe rfl (by kernel_rfl)
theorem htake_short(s:ByteArray)(hs:¬s.size=98)(w:World):
 Calls qc 149 #[.string s] w fun e w'=>e=.returned (.tuple #[.agg Zf,.int .i64 2])∧Below w.heap.size w w':=by
 have hs':¬(s.size:Int)=98:=by omega
 go_enter Tryz.func149,Tryz.ntmps149
 go_wp2_with fail
 refine bodyPost_ret (v:=.tuple #[.agg Zf,.int .i64 2]) ?r ?d ?fin
 case fin=>exact⟨rfl,((Below.refl w.heap.size w).alloc (qf _) _).alloc (by simp) _⟩
 case d=>rfl
 case r=>exact XI qh _ _ (w.heap.size+1) _ _ (0,0) _ rfl (QY (by simp) _) qe rfl (by kernel_rfl)
theorem htake_mark(s:ByteArray)(hs:s.size=98)(hm:¬s.extract 0 4=⟨#[83,76,71,49]⟩)(w:World):
 Calls qc 149 #[.string s] w fun e w'=>e=.returned (.tuple #[.agg Zf,.int .i64 2])∧Below w.heap.size w w':=by
 have hs':(s.size:Int)=98:=by omega
 have hml:((s.extract 0 4).toList==[83,76,71,49])=false:=by
  rw[beq_eq_false_iff_ne]
  intro h
  refine hm (ByteArray.ext (Array.ext' ?_))
  rw[←ByteArray.toList_eq,h]
 go_enter Tryz.func149,Tryz.ntmps149
 go_wp2_with fail
 refine bodyPost_ret (v:=.tuple #[.agg Zf,.int .i64 2]) ?r ?d ?fin
 case fin=>exact⟨rfl,((Below.refl w.heap.size w).alloc (qf _) _).alloc (by simp) _⟩
 case d=>rfl
 case r=>exact XI qh _ _ (w.heap.size+1) _ _ (0,0) _ rfl (QY (by simp) _) qe rfl (by kernel_rfl)
def htakeAny(s:ByteArray):Value:=
 if s.size=98 then if s.extract 0 4=⟨#[83,76,71,49]⟩then htakeV s else .tuple #[.agg Zf,.int .i64 2]else .tuple #[.agg Zf,.int .i64 2]
theorem htake_any(s:ByteArray)(w:World):
 Calls qc 149 #[.string s] w fun e w'=>e=.returned (htakeAny s)∧Below w.heap.size w w':=by
 unfold htakeAny
 by_cases h1:s.size=98
 ·rw[if_pos h1]
  by_cases h2:s.extract 0 4=⟨#[83,76,71,49]⟩
  ·rw[if_pos h2];exact htake_in s h1 h2 w
  ·rw[if_neg h2];exact htake_mark s h1 h2 w
 ·rw[if_neg h1];exact htake_short s h1 w
theorem fixed_front(n:Int):∀k:Nat,Sha.fixed n (k+1)=qd (n/256^k%256).toNat::Sha.fixed n k:=by
 intro k
 induction k generalizing n with
 |zero=>simp[Sha.fixed]
 |succ k ih=>
  rw[Sha.fixed,ih (n/256),Sha.fixed]
  rw[show n/256/256^k=n/256^(k+1) by rw[Int.ediv_ediv_of_nonneg (by decide),Int.pow_succ,Int.mul_comm]]
  rfl
theorem one_byte(b:UInt8)(w:World):
 Calls qc 275 #[.int .i64 b.toNat] w fun e w'=>e=.returned (.string (str [b]))∧Below w.heap.size w w':=by
 have hl:=b.toNat_lt
 have n0:(0:Int)≤b.toNat:=by omega
 have n1:(b.toNat:Int)<256:=by omega
 obtain⟨V,hV⟩:∃V,V=str [b]:=⟨_,rfl⟩
 rw[←hV]
 have hcv:=run_convert_bytes_back (P:=qc) (w.alloc (.cells #[.int .u8 b.toNat] 5 (0,0))) 110 9 5 ⟨w.heap.size,0,none⟩ 1 [b] Tryz.underlying110 Tryz.underlying5 Tryz.underlying9 (fun j hj=>by
  have:j=0:=by simp at hj;omega
  subst this
  rw[show(⟨w.heap.size,0,none⟩:Addr).add 0=⟨w.heap.size,0,none⟩from rfl,J7 (JE _ _)]
  simp[Jy])
 rw[show(⟨[b].toArray⟩:ByteArray)=V from hV.symm]at hcv
 simp only[List.length_singleton]at hcv
 have HV:=Lib.hid hV
 clear hV
 have hB:=Lib.hid ((Below.refl w.heap.size w).alloc (qf _) (.cells #[.int .u8 b.toNat] 5 (0,0)))
 generalize b.toNat=m at*
 have HCV:=Lib.hid hcv
 clear hcv
 go_enter Tryz.func275,Tryz.ntmps275
 go_wp2_with fail
 rw[HCV.out]
 go_wp2_with fail
 go_ret
 exact⟨rfl,hB.out⟩
theorem one_any(n:Nat)(hn:n<256)(w:World):
 Calls qc 275 #[.int .i64 n] w fun e w'=>e=.returned (.string (str [qd n]))∧Below w.heap.size w w':=by
 have:=one_byte (qd n) w
 rw[show(qd n).toNat=n by simp;omega]at this
 exact this
theorem bits_low(n:Nat)(hn:n<4611686018427387904):bits .and .i64 (n:Int) 255=((n%256:Nat):Int):=by
 have:=Qw n 255 (by omega) (by omega)
 rw[show n&&&255=n%256 from Nat.and_two_pow_sub_one_eq_mod n 8]at this
 exact this
theorem bytes_any(n k:Nat)(hn:n<4611686018427387904)(hk:k≤8)(w:World):
 Calls qc 216 #[.int .i64 n,.int .i64 k] w fun e w'=>e=.returned (.string (str (Sha.fixed n k)))∧Below w.heap.size w w':=by
 go_enter Tryz.func216,Tryz.ntmps216
 go_wp2_with fail
 go_loopw [0,5,6] (fun u0 v i wr=>∃t:Nat,t≤k∧i=.int .i64 t∧u0=.int .i64 (n/256^t:Nat)∧v=.string (str (Sha.fixed n t))∧Below w.heap.size w wr) (fun _ _ i _=>k-(intOf i).toNat)
 case atStart=>exact⟨0,Nat.zero_le _,rfl,by simp,rfl,Below.refl _ _⟩
 case round=>
  obtain⟨t,ht,rfl,rfl,rfl,hb⟩:=hrel
  have HB:=Lib.hid hb
  clear hb
  by_cases hlt:t<k
  ·have hlt':(t:Int)<k:=by omega
   have hm:=Nat.div_le_self n (256^t)
   have hnext:Hid (n/256^t/256=n/256^(t+1)):=Lib.hid (by rw[Nat.div_div_eq_div_mul,Nat.pow_succ])
   have hfr:Hid (str [qd (n/256^t%256)]++str (Sha.fixed n t)=str (Sha.fixed n (t+1))):=Lib.hid (by
    rw[fixed_front]
    rw[show((n:Int)/256^t%256).toNat=n/256^t%256 by
     have:((n:Int)/256^t%256)=((n/256^t%256:Nat):Int):=by push_cast;rfl
     rw[this,Int.toNat_natCast]]
    rfl)
   have q:(str (Sha.fixed n t)).size=t:=by rw[str_size,Sha.fixed_length]
   generalize n/256^t=m at*
   have hbl:=bits_low m (by omega)
   have hm0:(0:Int)≤m:=by omega
   generalize str (Sha.fixed n t)=b at*
   go_wp2_with fail
   refine(one_any (m%256) (by omega) _).mono ?_
   rintro e w1 ⟨rfl,hb1⟩
   have HB1:=Lib.hid (HB.out.trans (hb1.mono HB.out.size))
   have qa:(str [qd (m%256)]).size=1:=rfl
   clear hb1 HB hbl
   generalize str [qd (m%256)]=a at*
   have qs:¬9223372036854775807<1+t:=by omega
   go_wp2_with fail
   go_roundw
   case rel=>exact⟨t+1,by omega,by go_num,by rw[←hnext.out];simp,by rw[←hfr.out],HB1.out⟩
   case measure=>simp[intOf];omega
  ·have et:t=k:=by omega
   subst et
   go_wp2_with fail
   go_ret
   exact⟨rfl,HB.out⟩
theorem rfixed_any(n k:Nat)(hn:n<4611686018427387904)(hk:k≤8)(w:World):
 Calls qc 144 #[.int .i64 n,.int .i64 k] w fun e w'=>e=.returned (.string (str (Sha.fixed n k)))∧Below w.heap.size w w':=by
 have k0:¬(k:Int)<0:=by omega
 have k8:¬(8:Int)<k:=by omega
 go_enter Tryz.func144,Tryz.ntmps144
 go_wp2_with fail
 refine(bytes_any n k hn hk _).mono ?_
 rintro e w1 ⟨rfl,hb1⟩
 have HB1:=Lib.hid hb1
 clear hb1
 go_wp2_with fail
 go_ret
 exact⟨rfl,HB1.out⟩
end Go.Proofs.YteccmcpaheepcaaGreatDoor
