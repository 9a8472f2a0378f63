import Derived.Test.YthohbneadomgdaaGreatDoorVisi02
set_option linter.all false
set_option maxRecDepth 100000
set_option maxHeartbeats 16000000
open Nat renaming reduceLT→yQ,reduceEqDiff→yK,reduceAdd→yV,reduceSub→yY,reduceMul→yU
open Int renaming reduceToNat→yW,reduceLE→yX,reduceEq→yZ,reduceLT→yJ
open Go.Proofs.Tryz renaming prog→qc,underlying172→qh,underlying9→qk
open List renaming getD_eq_getElem?_getD→qd,getElem?_eq_getElem→qi,replicate→qj
open Nat renaming le_refl→qe
open Array renaming length_toList→qf
namespace Go.Proofs.YthohbneadomgdaaGreatDoor
open Go.RowKit
theorem Zc(n:Int):∀k,Sha.fixed n (k+1)=UInt8.ofNat (n/256^k%256).toNat::Sha.fixed n k:=by
 intro k
 induction k generalizing n with
 |zero=>simp[Sha.fixed]
 |succ k ih=>
  rw[Sha.fixed,ih (n/256),Sha.fixed]
  rw[Int.ediv_ediv_of_nonneg (by decide),←Int.pow_succ',List.cons_append]
theorem fixed_drop(n:Int)(k:Nat):∀j,(Sha.fixed n (k+j)).drop j=Sha.fixed n k
 |0=>rfl
 |j+1=>by rw[←Nat.add_assoc,Zc,List.drop_succ_cons];exact fixed_drop n k j
theorem fixed_byte(n:Int)(k:Nat):JB (UInt8.ofNat (n/256^k%256).toNat)=.int .u8 (n/256^k%256):=by
 unfold JB
 congr 1
 rw[UInt8.toNat_ofNat']
 have:0≤n/256^k%256:=Int.emod_nonneg _ (by decide)
 have:n/256^k%256<256:=Int.emod_lt_of_pos _ (by decide)
 omega
theorem fixed_step(n:Int)(t:Nat)(ht:t<8):
 (qj (8-t) (Value.int .u8 0)++J5 (Sha.fixed n t)).toArray.setIfInBounds (7-t) (.int .u8 (n/2^(8*t)%256))=(qj (8-(t+1)) (Value.int .u8 0)++J5 (Sha.fixed n (t+1))).toArray:=by
 have E:n/2^(8*t)%256=n/256^t%256:=by rw[Int.pow_mul];rfl
 have I:J5 (Sha.fixed n (t+1))=Value.int .u8 (n/256^t%256)::J5 (Sha.fixed n t):=by
  rw[Zc,←fixed_byte];rfl
 rw[E,I]
 apply Array.ext'
 rw[Array.toList_setIfInBounds]
 show List.set (qj (8-t) (Value.int .u8 0)++J5 (Sha.fixed n t)) (7-t) _=_
 rw[show 8-t=(8-(t+1))+1 by omega,List.replicate_succ',show 7-t=8-(t+1) by omega,List.append_assoc]
 rw[List.set_append_right _ _ (by simp)]
 simp
theorem slice8(g k:Nat)(hk1:1≤k)(hk:k≤8)(w:World):
 (Instr.sliceAt 244 (.pointer (some ⟨g,0,none⟩)) (some (.int .i64 (8-(k:Int)))) none none).run qc w=.ok (.slice (some ⟨g,8-k,none⟩) k k) w:=by
 have hl:qc.arrayLen 244=8:=by kernel_rfl
 have I:qc.elem 244=5:=by kernel_rfl
 have hs:(sizeOf 5).run qc w=.ok 1 w:=by
  obtain⟨O,hi,_,E,_⟩:=info_parts XR
  simp[sizeOf,typeInfo,hi,E]
 rw[run_sliceAt_array_l w _ _ (by rw[hl,I];exact Tryz.underlying244) _ _ (by omega) (by rw[hl];omega),I,hs,hl]
 have e:(8-(k:Int)).toNat=8-k:=by omega
 simp only[Result.andThen_ok,slicedAt,e]
 rw[if_neg (by omega),show 8-(8-k)=k by omega]
 congr 2
 simp only[Addr.add]
 split
 ·rename_i h
  have:8-k=0:=by omega
  simp[this]
 ·simp
theorem fixed_any(n:Int)(k:Nat)(hk1:1≤k)(hk:k≤8)(w:World):
 Calls qc 127 #[.int .i64 n,.int .i64 k] w fun e w'=>e=.returned (.string (str (Sha.fixed n k)))∧Below w.heap.size w w':=by
 go_enter Tryz.func127,Tryz.ntmps127
 go_wp2_with fail
 go_loopw [7] (fun i wr=>∃t:Nat,t≤8∧i=.int .i64 t∧Below w.heap.size w wr∧wr.heap[w.heap.size]?=some (.cells (qj (8-t) (Value.int .u8 0)++J5 (Sha.fixed n t)).toArray 244 (0,0))) (fun i _=>8-(intOf i).toNat)
 case atStart=>exact⟨0,by omega,rfl,(Below.refl _ _).alloc (qe _) _,JH _ _⟩
 case round=>
  obtain⟨t,ht,rfl,hb,E⟩:=hrel
  have Z:=Lib.hid hb
  have HG:=Lib.hid E
  by_cases hlt:t<8
  ·have c:=Ja E (7-t)
   have z:=Jh E (7-t)
   have e0:(qj (8-t) (Value.int .u8 0)++J5 (Sha.fixed n t)).toArray[7-t]?=some (.int .u8 0):=by
    rw[List.getElem?_toArray,List.getElem?_append_left (by simp;omega),List.getElem?_replicate,if_pos (by omega)]
   rw[e0]at c
   obtain⟨x7,y7,z7⟩:=idx (7-(t:Int)) (7-t) (by omega) (by omega)
   clear hb E e0
   have l1:7-(t:Int)<8:=by omega
   have l2:(t:Int)≤7:=by omega
   go_wp2
   go_roundw
   case rel=>exact⟨t+1,by omega,by go_num,Z.out.setCell (qe _) _,by rw[heap_setCell HG.out,fixed_step n t hlt]⟩
   case measure=>simp[intOf];omega
  ·have Y:t=8:=by omega
   rw[Y,Nat.sub_self,List.replicate_zero,List.nil_append]at E
   have I:=run_convert_bytes_back (P:=qc) wr 172 9 5 ⟨w.heap.size,8-k,none⟩ k (Sha.fixed n k) qh Tryz.underlying5 qk (fun j hj=>by
    rw[Sha.fixed_length]at hj
    have e8:(⟨w.heap.size,8-k,none⟩:Addr).add j=⟨w.heap.size,8-k+j,none⟩:=by cases j<;>simp[Addr.add]
    have U:=fixed_drop n k (8-k)
    rw[show k+(8-k)=8 by omega]at U
    rw[e8,Ja E,List.getElem?_toArray]
    have O:(J5 (Sha.fixed n 8))[8-k+j]?=(J5 (Sha.fixed n k))[j]?:=by
     rw[←U];simp[J5]
    rw[O]
    simp[J5,JB,Sha.fixed_length,hj])
   rw[Sha.fixed_length]at I
   have k0:(0:Int)≤k:=by omega
   have k8:(k:Int)≤8:=by omega
   have k1:(1:Int)≤k:=by omega
   obtain⟨xk,yk,zk⟩:=idx (8-(k:Int)) (8-k) (by omega) (by omega)
   have k2:8-(k:Int)≤8:=by omega
   have k3:¬(8:Nat)=8-k:=by omega
   have k4:8-(8-k)=k:=by omega
   have a6:=slice8 w.heap.size k hk1 hk wr
   clear E Y hb
   go_wp2
   go_ret
   exact⟨rfl,Z.out⟩
theorem fixed_i(n k:Int)(hk1:1≤k)(hk:k≤8)(w:World):
 Calls qc 127 #[.int .i64 n,.int .i64 k] w fun e w'=>e=.returned (.string (str (Sha.fixed n k.toNat)))∧Below w.heap.size w w':=by
 obtain⟨k,rfl⟩:=Int.eq_ofNat_of_zero_le (show(0:Int)≤k by omega)
 rw[Int.toNat_natCast]
 exact fixed_any n k (by omega) (by omega) w
theorem extract_any(salt secret:ByteArray)(w:World)(h1:salt.size≤140737488355000)(h2:secret.size≤140737488355000):
 Calls qc 82 #[.string salt,.string secret] w fun e w'=>e=.returned (.string (str (Sha.tag salt.data.toList secret.data.toList)))∧Below w.heap.size w w':=by
 have I:Jw [secret]=secret.data.toList:=by simp[Jw]
 have hl:secret.data.toList.length=secret.size:=by rw[qf];rfl
 have E:=Lib.hid I
 have O:=Lib.hid hl
 clear I hl
 go_enter Tryz.func82,Tryz.ntmps82
 go_wp2_with fail
 refine(tag_any salt (.slice (some ⟨w.heap.size,0,none⟩) 1 1) [secret] _ (SliceOf.litS _ _ rfl _ 9 1 rfl (by decide) _ rfl) (by omega) (by simp[maxLen]) (by rw[E.out,O.out];exact h2)).mono ?_
 rintro e U ⟨rfl,hb⟩
 rw[E.out]
 go_wp2_with fail
 go_ret
 exact⟨rfl,((Below.refl w.heap.size w).alloc (qe _) _).trans (hb.mono (by simp))⟩
theorem fixed_one(j:Nat)(hj:j<255):Sha.fixed ((j:Int)+1) (1:Int).toNat=[UInt8.ofNat (j+1)]:=by
 show Sha.fixed ((j:Int)+1) 1=_
 simp only[Sha.fixed,List.nil_append]
 have:(((j:Int)+1)%256).toNat=j+1:=by omega
 rw[this]
theorem expand_any(key info:ByteArray)(n:Nat)(hn1:1≤n)(hn:n≤8160)(w:World)(hk:key.size≤140737488355000)(hi:info.size≤1000000):
 Calls qc 134 #[.string key,.string info,.int .i64 n] w fun e w'=>e=.returned (.tuple #[.string (str (Sha.expand key.data.toList info.data.toList n)),.int .i64 0])∧Below w.heap.size w w':=by
 obtain⟨i0,az,aI,aD,aF⟩:=info_parts XR
 have n1:(1:Int)≤n:=by omega
 have n2:(n:Int)≤8160:=by omega
 have ap:info.data.toList.length=info.size:=by rw[qf];rfl
 have aE:=Lib.hid ap
 clear ap
 go_enter Tryz.func134,Tryz.ntmps134
 go_wp2_with fail
 go_loopg [8,9,10] 256 (fun k v t i wr=>∃j:Nat,j+k=256∧32*j≤n+31∧i=.int .i64 ((j:Int)+1)∧t=.string (str (Sha.parts key.data.toList info.data.toList j).1)∧Below w.heap.size w wr∧
  wr.ownsRow w.heap.size 5 1 v (32*j) (J5 (Sha.parts key.data.toList info.data.toList j).2))
 case atStart=>exact⟨0,by omega,by omega,rfl,rfl,Below.refl _ _,World.ownsRow_nil _ _ _ _⟩
 case round=>
  obtain⟨j,ba,aX,rfl,rfl,hb,U⟩:=hrel
  have HO:=Lib.hid U
  have HB:=Lib.hid hb
  have aN:=hb.size
  obtain⟨av,E,hv,ab⟩:=Qv JB U
  rw[Sha.parts_length]at hv
  subst hv
  have aU:32*j≤E:=by
   rcases ab with⟨h0,_⟩|⟨_,_,_,_,hlc,_⟩
   ·have:=congrArg List.length h0;rw[Sha.parts_length]at this;simp at this;omega
   ·rw[Sha.parts_length]at hlc;exact hlc
  have aj:Hid (ElemsAt ZU wr av E (Sha.parts key.data.toList info.data.toList j).2):=ab
  have an:=Lib.hid (Sha.parts_length key.data.toList info.data.toList j)
  clear U hb ab
  by_cases hlt:32*j<n
  ·have aS:(32*(j:Int))<n:=by omega
   obtain⟨O,ag⟩:∃O,O=UInt8.ofNat (j+1):=⟨_,rfl⟩
   have aM:=Lib.hid ag
   have af:Hid (Sha.parts key.data.toList info.data.toList (j+1)=(Sha.tag key.data.toList ((Sha.parts key.data.toList info.data.toList j).1++(info.data.toList++[O])),(Sha.parts key.data.toList info.data.toList j).2++Sha.tag key.data.toList ((Sha.parts key.data.toList info.data.toList j).1++(info.data.toList++[O])))):=by rw[ag];rfl
   have ay:(Sha.parts key.data.toList info.data.toList j).1.length≤32:=by
    cases j with
    |zero=>simp[Sha.parts]
    |succ j=>simp[Sha.parts,Sha.tag_length]
   have aB:=Lib.hid ay
   clear ay ag
   go_wp2_with fail
   refine(fixed_i _ _ (by decide) (by decide) _).mono ?_
   rintro e w1 ⟨rfl,ac⟩
   rw[fixed_one j (by omega),←aM.out]
   have ax:=Lib.hid (Um HO.out ac)
   have ai:=Lib.hid (HB.out.trans (ac.mono aN))
   have ar:=ai.out.size
   clear ac HO HB
   have hj:Jw [str (Sha.parts key.data.toList info.data.toList j).1,info,str [O]]=(Sha.parts key.data.toList info.data.toList j).1++(info.data.toList++[O]):=by simp[Jw,str]
   have HJ:=Lib.hid hj
   have aG:Hid ((Jw [str (Sha.parts key.data.toList info.data.toList j).1,info,str [O]]).length≤140737488355000):=by
    have h3:=aB.out
    have h4:=aE.out
    show _≤_
    rw[hj];simp only[List.length_append,List.length_singleton];omega
   clear hj
   go_wp2_with fail
   refine(tag_any key (.slice (some ⟨w1.heap.size,0,none⟩) 3 3) [str (Sha.parts key.data.toList info.data.toList j).1,info,str [O]] _ (SliceOf.litS _ _ rfl _ 9 3 rfl (by decide) _ rfl) (by omega) (by simp[maxLen]) aG.out).mono ?_
   rintro e w2 ⟨rfl,ae⟩
   rw[HJ.out]
   obtain⟨tg,ah⟩:∃tg,tg=Sha.tag key.data.toList ((Sha.parts key.data.toList info.data.toList j).1++(info.data.toList++[O])):=⟨_,rfl⟩
   have aw:(str tg).size=32:=by rw[str_size,ah,Sha.tag_length]
   rw[←ah]at af ⊢
   have aq:=Lib.hid (Um (ax.out.alloc (.cells #[.string (str (Sha.parts key.data.toList info.data.toList j).1),.string info,.string (str [O])] 9)) ae)
   have au:=Lib.hid ((ai.out.alloc ar (.cells #[.string (str (Sha.parts key.data.toList info.data.toList j).1),.string info,.string (str [O])] 9)).trans (ae.mono (by simp;omega)))
   have a8:=au.out.size
   have ad:=Lib.hid aw
   clear ae ah aw ax ai
   go_wp2_with (at_builtin;refine Lib.wpList_append_own_string _ rfl _ _ 172 9 rfl w.heap.size 5 i0 qh qk az aI aD aF _ _ _ rfl aq.out (str tg) rfl (by rw[ad.out];simp[maxLen];omega) (by rw[ad.out];omega) a8 ?_)
   intro v3 w3 Y a2 _
   have ak:Below w.heap.size w w3:=au.out.grown a2 a8 (fun k hk=>(aq.out.lt k hk).1)
   have I:w3.ownsRow w.heap.size 5 1 v3 (32*(j+1)) (J5 (Sha.parts key.data.toList info.data.toList (j+1)).2):=by
    rw[af.out]
    have e:J5 ((Sha.parts key.data.toList info.data.toList j).2++tg)=J5 (Sha.parts key.data.toList info.data.toList j).2++Lib.strCells (str tg):=by simp only[J5,List.map_append];rfl
    rw[e,show 32*(j+1)=32*j+(str tg).size by rw[ad.out];omega]
    exact Y
   have aA:=Lib.hid I
   have aL:=Lib.hid ak
   have aO:Hid ((Sha.parts key.data.toList info.data.toList (j+1)).1=tg):=by rw[af.out];rfl
   clear Y a2 ak I
   go_wp2_with fail
   go_roundg (gk-1)
   case measure=>omega
   case rel=>exact⟨j+1,by omega,by omega,by go_num,by rw[aO.out],aL.out,aA.out⟩
  ·have bd:¬(32*(j:Int))<n:=by omega
   have aC:(n:Int)≤E:=by omega
   have aa:Hid (Sha.expand key.data.toList info.data.toList n=(Sha.parts key.data.toList info.data.toList j).2.take n):=by
    show _=_
    have e:(n+31)/32=j:=by omega
    rw[Sha.expand,e]
   generalize hP:(Sha.parts key.data.toList info.data.toList j).2=P2 at*
   have ao:(P2.take n).length=n:=by rw[List.length_take,an.out];omega
   obtain⟨b6,Z,rfl,_,_⟩:=aj.out.byte (i:=0) (by rw[an.out];omega)
   have al:=run_convert_bytes_back (P:=qc) wr 172 9 5 ⟨b6,Z,none⟩ E (P2.take n) qh Tryz.underlying5 qk (fun i hi=>by
    obtain⟨b7,aP,e7,_,h7⟩:=(aj.out.take n).byte hi
    cases e7
    have e8:(⟨b6,Z,none⟩:Addr).add i=⟨b6,Z+i,none⟩:=by cases i<;>simp[Addr.add]
    rw[e8,h7]
    rw[qd,qi hi]
    rfl)
   rw[ao]at al
   obtain⟨am,a6⟩:∃am,am=P2.take n:=⟨_,rfl⟩
   rw[←a6]at al aa
   clear ao a6 hP
   go_wp2
   go_ret2
   exact⟨by rw[aa.out];rfl,HB.out⟩
theorem of_any(name key:ByteArray)(w:World)(hk:key.size≤140737488355000)(hi:name.size≤1000000):
 Calls qc 83 #[.string name,.string key] w fun e w'=>e=.returned (.string (str (Sha.expand key.data.toList name.data.toList 32)))∧Below w.heap.size w w':=by
 go_enter Tryz.func83,Tryz.ntmps83
 go_wp2_with fail
 refine(expand_any key name 32 (by decide) (by decide) _ hk hi).mono ?_
 rintro e E ⟨rfl,hb⟩
 go_wp2_with fail
 go_ret
 exact⟨rfl,hb⟩
def keysV(secret salt:List UInt8):Value:=.agg #[.string (str (Sha.encKey secret salt)),.string (str (Sha.macKey secret salt)),.string (str (Sha.headKey secret))]
theorem keys_any(secret salt:ByteArray)(w:World)(h1:secret.size≤140737488355000)(h2:salt.size≤140737488355000):
 Calls qc 41 #[.string secret,.string salt] w fun e w'=>e=.returned (keysV secret.data.toList salt.data.toList)∧Below w.heap.size w w':=by
 have ht:∀a b,(str (Sha.tag a b)).size≤140737488355000:=fun a b=>by rw[str_size,Sha.tag_length];decide
 have HT:=Lib.hid ht
 clear ht
 go_enter Tryz.func41,Tryz.ntmps41
 go_wp2_with fail
 refine(extract_any salt secret _ h2 h1).mono ?_
 rintro e w1 ⟨rfl,I⟩
 have Z:Below w.heap.size w w1:=((Below.refl w.heap.size w).alloc (qe _) _).trans (I.mono (by simp))
 have ac:w1.heap[w.heap.size]?=_:=JJ (JH _ _) I
 have af:=Lib.hid Z
 have ad:=Lib.hid ac
 have an:=Z.size
 clear I Z ac
 go_wp2_with fail
 refine(of_any (str Sha.forBytes) _ _ (HT.out _ _) (by decide)).mono ?_
 rintro e w2 ⟨rfl,Y⟩
 have a7:=Lib.hid (af.out.trans (Y.mono an))
 have ae:=Lib.hid (JJ ad.out Y)
 have hs2:=a7.out.size
 clear Y af ad
 go_wp2_with fail
 refine(of_any (str Sha.forTags) _ _ (HT.out _ _) (by decide)).mono ?_
 rintro e w3 ⟨rfl,U⟩
 have a6:=Lib.hid (a7.out.trans (U.mono hs2))
 have aa:=Lib.hid (JJ ae.out U)
 have ak:=a6.out.size
 clear U a7 ae
 go_wp2_with fail
 refine(extract_any (str []) secret _ (by decide) h1).mono ?_
 rintro e w4 ⟨rfl,a8⟩
 have a2:=Lib.hid (a6.out.trans (a8.mono ak))
 have ag:=Lib.hid (JJ aa.out a8)
 have aj:=a2.out.size
 clear a8 a6 aa
 go_wp2_with fail
 refine(of_any (str Sha.forHeads) _ _ (HT.out _ _) (by decide)).mono ?_
 rintro e w5 ⟨rfl,O⟩
 have ah:=Lib.hid (a2.out.trans (O.mono aj))
 have E:=JJ ag.out O
 clear O a2 ag
 have c0:=Ja E 0
 have c1:=Ja E 1
 have c2:=Ja E 2
 have z0:=Jh E 0
 have z1:=Jh E 1
 have z2:=Jh E 2
 simp at c0 c1 c2
 have ai:=Lib.hid E
 clear E
 have ab:=((ah.out.setCell (p:=⟨w.heap.size,0,none⟩) (qe _) (.string (str (Sha.encKey secret.data.toList salt.data.toList)))).setCell (p:=⟨w.heap.size,1,none⟩) (qe _) (.string (str (Sha.macKey secret.data.toList salt.data.toList)))).setCell (p:=⟨w.heap.size,2,none⟩) (qe _) (.string (str (Sha.headKey secret.data.toList)))
 have hW:=heap_setCell (heap_setCell (heap_setCell ai.out 0 (.string (str (Sha.encKey secret.data.toList salt.data.toList)))) 1 (.string (str (Sha.macKey secret.data.toList salt.data.toList)))) 2 (.string (str (Sha.headKey secret.data.toList)))
 have HW:=Lib.hid hW
 have am:=Lib.hid ab
 clear hW ab
 go_wp2
 refine bodyPost_ret (v:=keysV secret.data.toList salt.data.toList) ?r ?d ?fin
 case fin=>exact⟨rfl,am.out⟩
 case d=>rfl
 case r=>exact results_cell_row Tryz.results41 _ _ w.heap.size _ _ (0,0) _ rfl HW.out Tryz.underlying98 rfl (by kernel_rfl)
def Sha.num:List UInt8→Nat:=List.foldl (fun n c=>n*256+c.toNat) 0
theorem Sha.num_snoc(l:List UInt8)(c:UInt8):Sha.num (l++[c])=Sha.num l*256+c.toNat:=by simp[Sha.num,List.foldl_append]
theorem Sha.num_from(l:List UInt8):∀a:Nat,l.foldl (fun n c=>n*256+c.toNat) a+1≤(a+1)*256^l.length:=by
 induction l with
 |nil=>intro a;simp
 |cons c l ih=>
  intro a
  have E:=ih (a*256+c.toNat)
  have h2:=c.toNat_lt
  rw[List.foldl_cons,List.length_cons,Nat.pow_succ]
  refine Nat.le_trans E ?_
  rw[Nat.mul_comm (256^l.length) 256,←Nat.mul_assoc]
  exact Nat.mul_le_mul_right _ (by omega)
theorem Sha.num_lt(l:List UInt8):Sha.num l<256^l.length:=by
 have:=Sha.num_from l 0
 simp at this
 exact this
theorem take_any(s:ByteArray)(k:Nat)(hk1:1≤k)(hk:k≤6)(hs:k≤s.size)(hsz:s.size≤140737488355327)(w:World):
 Calls qc 87 #[.string s,.int .i64 k] w fun e w'=>e=.returned (.tuple #[.int .i64 (Sha.num (s.data.toList.take k):Nat),.string (s.extract k s.size),.int .i64 0])∧Below w.heap.size w w':=by
 go_enter Tryz.func87,Tryz.ntmps87
 have k1:¬(k:Int)<1:=by omega
 have k2:¬(8:Int)<k:=by omega
 have k3:¬(s.size:Int)<k:=by omega
 have I:=fun w=>run_bytes_of_string (P:=qc) w 9 172 5 (s.extract 0 k) qk qh Tryz.underlying5
 have Y:(s.extract 0 k).size=k:=by simp;omega
 rw[Y]at I
 have k4:(k:Int)≤s.size:=by omega
 go_wp2_with fail
 go_loopg [7,27] k (fun j v i wr=>∃t:Nat,t≤k∧j=k-t∧i=.int .i64 t∧v=.int .i64 (Sha.num (s.data.toList.take t):Nat)∧Below w.heap.size w wr∧(∀j,j<k→wr.cell? ⟨w.heap.size,j,none⟩=some (.int .u8 (s.data.toList.getD j 0).toNat)))
 case atStart=>
  refine⟨0,Nat.zero_le _,rfl,rfl,rfl,?_,fun j hj=>?_⟩
  ·exact((Same.drew w).below _).alloc (by simp) _
  ·have a6:j<(s.extract 0 k).data.size:=by show j<(s.extract 0 k).size;omega
   have hb:=bytesRow_at (s.extract 0 k) (grownCap w k 0 5) j a6
   have e1:(s.extract 0 k).data[j]=s.data.toList.getD j 0:=by
    have a7:j<s.data.size:=by show j<s.size;omega
    rw[qd,qi (by rw[qf];exact a7)]
    simp[ByteArray.data_extract]
   rw[e1]at hb
   refine(Same.drew _).cell ?_
   rw[Ja (JH _ _)]
   exact hb
 case round=>
  obtain⟨t,ht,rfl,rfl,rfl,hb,hc⟩:=hrel
  clear I
  have Z:=Lib.hid hb
  by_cases hlt:t<k
  ·have aa:(t:Int)<k:=by omega
   have c:=hc t hlt
   have HC:=Lib.hid hc
   obtain⟨b,U⟩:∃b,b=s.data.toList.getD t 0:=⟨_,rfl⟩
   have E:Sha.num (s.data.toList.take (t+1))=Sha.num (s.data.toList.take t)*256+b.toNat:=by
    have O:t<s.data.toList.length:=by rw[qf];show t<s.size;omega
    rw[List.take_succ_eq_append_getElem O,Sha.num_snoc,U,qd,qi O];rfl
   have hN:=Sha.num_lt (s.data.toList.take t)
   have ah:Sha.num (s.data.toList.take t)<1099511627776:=by
    refine Nat.lt_of_lt_of_le hN ?_
    have:(s.data.toList.take t).length≤5:=by simp;omega
    exact Nat.le_trans (Nat.pow_le_pow_right (by decide) this) (by decide)
   rw[←U]at c
   have ae:=b.toNat_lt
   generalize b.toNat=B at*
   generalize Sha.num (s.data.toList.take t)=N at*
   have ac:bits .or .i64 ((N:Int)*256) (B:Int)=((N*256+B:Nat):Int):=by
    have:=VW (N*256) B (by omega) (by omega)
    rw[show N*256|||B=N*256+B by
     have:=Nat.shiftLeft_add_eq_or_of_lt (show B<2^8 by omega) N
     rw[Nat.shiftLeft_eq]at this;exact this.symm]at this
    exact_mod_cast this
   have HN:=Lib.hid E
   clear hb hc hN E
   go_wp2
   go_roundg (k-t-1)
   case measure=>omega
   case rel=>exact⟨t+1,by omega,by omega,by go_num,by rw[HN.out];simp,Z.out,HC.out⟩
  ·have et:t=k:=by omega
   subst et
   clear hb hc
   go_wp2
   go_quiet (fail)
   have a2:=Lib.hid (Z.out.trans ((Same.drewN wr nq).below _))
   clear Z
   generalize wr.drewN nq=w2 at*
   go_wp2
   go_ret3
   exact⟨rfl,a2.out⟩
theorem width_any(x:Int)(w:World):
 Calls qc 199 #[.int .i64 x] w fun e w'=>e=.returned (.int .i64 (Sha.width x:Nat))∧w=w':=by
 have hc:(x<1∧Sha.width x=1)∨(1≤x∧x≤32∧(Sha.width x:Int)=x)∨(32<x∧Sha.width x=32):=by unfold Sha.width;omega
 rcases hc with⟨I,h2⟩|⟨I,h2,E⟩|⟨I,h2⟩
 ·rw[h2]
  clear h2
  go_enter Tryz.func199,Tryz.ntmps199
  go_wp2
  go_ret
  exact⟨rfl,rfl⟩
 ·rw[E]
  clear E
  go_enter Tryz.func199,Tryz.ntmps199
  go_wp2
  all_goals
   go_ret
   exact⟨by first|rfl|(congr 2;omega),rfl⟩
 ·rw[h2]
  clear h2
  go_enter Tryz.func199,Tryz.ntmps199
  go_wp2
  all_goals
   go_ret
   exact⟨by first|rfl|(congr 2;omega),rfl⟩
theorem msum_any(x:Int)(v:Value)(ss:List ByteArray)(w:World)(hs:SliceOf strS w v ss)(hlen:ss.length≤maxLen)(hsz:(Jw ss).length≤140737488355200):
 Calls qc 148 #[.int .i64 x,v] w fun e w'=>e=.returned (.string (str (Sha.msum x (Jw ss))))∧Below w.heap.size w w':=by
 have hl:(str (Sha.sum (Jw ss))).size=32:=by rw[str_size,Sha.sum_length]
 have hw:Sha.width x≤32:=by unfold Sha.width;omega
 go_enter Tryz.func148,Tryz.ntmps148
 go_wp2_with fail
 refine(shasum_any v ss _ hs hlen hsz).mono ?_
 rintro e w1 ⟨rfl,hb⟩
 obtain⟨O,E⟩:∃O,O=str (Sha.sum (Jw ss)):=⟨_,rfl⟩
 have I:str (Sha.msum x (Jw ss))=O.extract 0 (Sha.width x):=by
  rw[E,str,ByteArray.extract_mk]
  rfl
 rw[show(⟨(Sha.sum (Jw ss)).toArray⟩:ByteArray)=O from E.symm]
 rw[←E]at hl
 have U:(O.size:Int)=32:=by omega
 have HF:=Lib.hid I
 have HL:=Lib.hid hl
 have Z:Sha.width x≤O.size:=by omega
 have Y:((Sha.width x:Nat):Int)≤O.size:=by omega
 clear E I hl U
 go_wp2_with fail
 refine(width_any x _).mono ?_
 rintro e w' ⟨rfl,rfl⟩
 go_wp2_with fail
 go_ret
 exact⟨by rw[HF.out];rfl,hb⟩
theorem cut_any(n:Nat)(hn:n≤1152921504606846976)(w:World):
 Calls qc 149 #[.int .i64 n] w fun e w'=>e=.returned (.int .i64 (Sha.cut n:Nat))∧Below w.heap.size w w':=by
 go_enter Tryz.func149,Tryz.ntmps149
 go_wp2_with fail
 go_loopg [3] n (fun f v wr=>∃c:Nat,v=.int .i64 c∧w=wr∧Hid (Sha.cutF f c n=Sha.cut n)∧1≤c∧c≤n+1∧n+1≤f+c)
 case atStart=>exact⟨1,rfl,rfl,rfl,by omega,by omega,by omega⟩
 case round=>
  obtain⟨c,rfl,rfl,hc,U,h2,O⟩:=hrel
  by_cases hlt:2*c<n
  ·have I:(c:Int)<n-c:=by omega
   obtain⟨f,rfl⟩:∃f,gk=f+1:=⟨gk-1,by omega⟩
   have E:Hid (Sha.cutF f (2*c) n=Sha.cut n):=by
    have:=hc.out
    rw[Sha.cutF,if_pos hlt]at this
    exact this
   clear hc
   go_wp2_with fail
   go_roundg f
   case measure=>omega
   case rel=>exact⟨2*c,by go_num,rfl,E,by omega,by omega,by omega⟩
  ·have I:¬(c:Int)<n-c:=by omega
   have E:Hid (c=Sha.cut n):=by
    have:=hc.out
    cases gk with
    |zero=>exact this
    |succ f=>rw[Sha.cutF,if_neg hlt]at this;exact this
   clear hc
   go_wp2_with fail
   go_ret
   exact⟨by rw[←E.out];rfl,Below.refl _ _⟩
end Go.Proofs.YthohbneadomgdaaGreatDoor
