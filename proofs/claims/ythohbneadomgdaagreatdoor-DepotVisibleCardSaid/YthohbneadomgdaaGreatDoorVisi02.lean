import Derived.Test.YthohbneadomgdaaGreatDoorVisi01
set_option linter.all false
set_option maxRecDepth 100000
set_option maxHeartbeats 16000000
open Nat renaming reduceLT→yQ,reduceEqDiff→yK,reduceAdd→yV,reduceSub→yY,reduceMul→yU
open Int renaming reduceToNat→yW,reduceLE→yX,reduceEq→yZ,reduceLT→yJ
open UInt8 renaming toNat_lt→qc
open Array renaming length_toList→qd
open Nat renaming xor_lt_two_pow→qe
open Go.Proofs.Tryz renaming prog→qf
namespace Go.Proofs.YthohbneadomgdaaGreatDoor
open Go.RowKit
theorem byte_at(s:ByteArray)(i:Nat)(hi:i<s.size):s.data.toList.getD i 0=s[i]:=by
 have:i<s.data.toList.length:=by rw[qd];exact hi
 rw[List.getD_eq_getElem?_getD,List.getElem?_eq_getElem this]
 rfl
theorem at_in(s:ByteArray)(i:Nat)(hi:i<s.size)(w:World):
 Calls qf 121 #[.string s,.int .i64 i] w fun e w'=>e=.returned (.int .u8 (s.data.toList.getD i 0).toNat)∧w=w':=by
 go_enter Tryz.func121,Tryz.ntmps121
 go_wp2
 go_ret
 exact⟨by rw[byte_at s i hi];rfl,rfl⟩
theorem at_out(s:ByteArray)(i:Nat)(hi:¬i<s.size)(w:World):
 Calls qf 121 #[.string s,.int .i64 i] w fun e w'=>e=.returned (.int .u8 (s.data.toList.getD i 0).toNat)∧w=w':=by
 have h:s.data.toList.getD i 0=0:=by
  rw[List.getD_eq_getElem?_getD,List.getElem?_eq_none (by rw[qd];show s.size≤i;omega)];rfl
 rw[h]
 clear h
 go_enter Tryz.func121,Tryz.ntmps121
 go_wp2
 go_ret
 exact⟨rfl,rfl⟩
theorem at_any(s:ByteArray)(i:Nat)(w:World):
 Calls qf 121 #[.string s,.int .i64 i] w fun e w'=>e=.returned (.int .u8 (s.data.toList.getD i 0).toNat)∧w=w':=by
 by_cases h:i<s.size
 ·exact at_in s i h w
 ·exact at_out s i h w
theorem ZP(a:Nat)(ha:a<9223372036854775808):(BitVec.ofInt 64 (a:Int)).toNat=a:=by
 rw[BitVec.ofInt_natCast,BitVec.toNat_ofNat];exact Nat.mod_eq_of_lt (by omega)
theorem QA(a b:Nat)(ha:a<9223372036854775808)(hb:b<9223372036854775808):bits .and .i64 (a:Int) (b:Int)=((a&&&b:Nat):Int):=by
 have hx:a&&&b<2^63:=Nat.and_lt_two_pow _ (by omega)
 show IntKind.i64.wrap ((BitVec.ofInt 64 (a:Int)&&&BitVec.ofInt 64 (b:Int)).toNat:Int)=_
 rw[BitVec.toNat_and,ZP a ha,ZP b hb,IntKind.wrap_i64]
 omega
theorem VW(a b:Nat)(ha:a<9223372036854775808)(hb:b<9223372036854775808):bits .or .i64 (a:Int) (b:Int)=((a|||b:Nat):Int):=by
 have hx:a|||b<2^63:=Nat.or_lt_two_pow (by omega) (by omega)
 show IntKind.i64.wrap ((BitVec.ofInt 64 (a:Int)|||BitVec.ofInt 64 (b:Int)).toNat:Int)=_
 rw[BitVec.toNat_or,ZP a ha,ZP b hb,IntKind.wrap_i64]
 omega
theorem XK(a b:Nat)(ha:a<9223372036854775808)(hb:b<9223372036854775808):bits .xor .i64 (a:Int) (b:Int)=((a^^^b:Nat):Int):=by
 have hx:a^^^b<2^63:=qe (by omega) (by omega)
 show IntKind.i64.wrap ((BitVec.ofInt 64 (a:Int)^^^BitVec.ofInt 64 (b:Int)).toNat:Int)=_
 rw[BitVec.toNat_xor,ZP a ha,ZP b hb,IntKind.wrap_i64]
 omega
def sameB(x y:List UInt8):Bool:=decide (x=y)
def dist(a b:List UInt8):Nat→Nat
 |0=>a.length^^^b.length
 |t+1=>dist a b t|||((a.getD t 0).toNat^^^(b.getD t 0).toNat)
theorem xor_zero{x y:Nat}:x^^^y=0↔x=y:=by
 constructor
 ·intro h
  have E:(x^^^y)^^^y=x:=by rw[Nat.xor_assoc,Nat.xor_self,Nat.xor_zero]
  rw[h,Nat.zero_xor]at E
  exact E.symm
 ·rintro rfl;exact Nat.xor_self _
theorem or_zero{x y:Nat}:x|||y=0↔x=0∧y=0:=Nat.or_eq_zero_iff
theorem dist_lt(a b:List UInt8)(ha:a.length<4611686018427387904)(hb:b.length<4611686018427387904):∀t,dist a b t<9223372036854775808
 |0=>Nat.lt_of_lt_of_le (qe (n:=62) ha hb) (by decide)
 |t+1=>Nat.or_lt_two_pow (n:=63) (dist_lt a b ha hb t) (Nat.lt_of_lt_of_le (qe (n:=8) (qc _) (qc _)) (by decide))
theorem dist_zero(a b:List UInt8):∀t,dist a b t=0↔(a.length=b.length∧∀i,i<t→a.getD i 0=b.getD i 0)
 |0=>by simp[dist,xor_zero]
 |t+1=>by
  rw[dist,or_zero,dist_zero a b t,xor_zero]
  constructor
  ·rintro⟨⟨h1,h2⟩,h3⟩
   refine⟨h1,fun i hi=>?_⟩
   by_cases e:i=t
   ·subst e;exact UInt8.toNat_inj.1 h3
   ·exact h2 i (by omega)
  ·rintro⟨h1,h2⟩
   exact⟨⟨h1,fun i hi=>h2 i (by omega)⟩,by rw[h2 t (by omega)]⟩
theorem dist_eq(a b:List UInt8):dist a b (max a.length b.length)=0↔a=b:=by
 rw[dist_zero]
 constructor
 ·rintro⟨I,h2⟩
  apply List.ext_getElem I
  intro i E O
  have:=h2 i (by omega)
  simpa[List.getD,E,O]using this
 ·rintro rfl
  exact⟨rfl,fun _ _=>rfl⟩
theorem equal_lt(a b:ByteArray)(w:World)(ha:a.size<4611686018427387904)(hb:b.size<4611686018427387904)(hle:a.size<b.size):
 Calls qf 67 #[.string a,.string b] w fun e w'=>e=.returned (.tuple #[.bool (sameB a.data.toList b.data.toList),.int .i64 (max a.size b.size:Nat)])∧Below w.heap.size w w':=by
 have hx:=XK a.size b.size (by omega) (by omega)
 have I:a.data.toList.length=a.size:=by rw[qd];rfl
 have O:b.data.toList.length=b.size:=by rw[qd];rfl
 have Y:a.size^^^b.size=dist a.data.toList b.data.toList 0:=by rw[dist,I,O]
 rw[Y]at hx
 have E:max a.size b.size=b.size:=by omega
 have U:Hid (dist a.data.toList b.data.toList b.size=0↔a.data.toList=b.data.toList):=by
  have:=dist_eq a.data.toList b.data.toList
  rw[I,O,E]at this
  exact this
 have a2:=Lib.hid (dist_lt a.data.toList b.data.toList (by omega) (by omega))
 have aa:(a.size:Int)<b.size:=by omega
 rw[E]
 clear I O Y E
 go_enter Tryz.func67,Tryz.ntmps67
 go_wp2
 go_loop [7,20] (fun d i=>∃t:Nat,t≤b.size∧i=.int .i64 t∧d=.int .i64 (dist a.data.toList b.data.toList t:Nat)) (fun _ i=>b.size-(intOf i).toNat)
 case atStart=>exact⟨0,Nat.zero_le _,rfl,rfl⟩
 case round=>
  clear hx
  obtain⟨t,ht,rfl,rfl⟩:=hrel
  by_cases hlt:t<b.size
  ·have a6:=a2.out t
   have ag:=u8_xor_nat (a.data.toList.getD t 0).toNat (b.data.toList.getD t 0).toNat (qc _) (qc _)
   have ae:(a.data.toList.getD t 0).toNat^^^(b.data.toList.getD t 0).toNat<256:=qe (n:=8) (qc _) (qc _)
   have ab:=VW (dist a.data.toList b.data.toList t) ((a.data.toList.getD t 0).toNat^^^(b.data.toList.getD t 0).toNat) a6 (by omega)
   have Z:Hid (dist a.data.toList b.data.toList (t+1)=dist a.data.toList b.data.toList t|||((a.data.toList.getD t 0).toNat^^^(b.data.toList.getD t 0).toNat)):=rfl
   have hA:=at_any a t
   have hB:=at_any b t
   generalize(a.data.toList.getD t 0).toNat=x at*
   generalize(b.data.toList.getD t 0).toNat=y at*
   have HA:=Lib.hid hA
   have HB:=Lib.hid hB
   clear hA hB
   generalize dist a.data.toList b.data.toList t=d at*
   go_wp2_with fail
   refine(HA.out _).mono ?_
   rintro e w' ⟨rfl,rfl⟩
   go_wp2_with fail
   refine(HB.out _).mono ?_
   rintro e w' ⟨rfl,rfl⟩
   go_wp2_with fail
   go_round
   case rel=>exact⟨t+1,by omega,by go_num,by rw[Z.out]⟩
   case measure=>simp[intOf];omega
  ·have et:t=b.size:=by omega
   have hz:Hid ((((dist a.data.toList b.data.toList t:Nat):Int)==0)=sameB a.data.toList b.data.toList):=by
    show _=_
    rw[et,Bool.eq_iff_iff,beq_iff_eq,sameB,decide_eq_true_iff,←U.out];omega
   generalize dist a.data.toList b.data.toList t=d at*
   clear et
   go_wp2_with fail
   go_ret2
   refine⟨?_,Below.refl _ _⟩
   rw[←hz.out]
   rfl
theorem equal_ge(a b:ByteArray)(w:World)(ha:a.size<4611686018427387904)(hb:b.size<4611686018427387904)(hle:b.size≤a.size):
 Calls qf 67 #[.string a,.string b] w fun e w'=>e=.returned (.tuple #[.bool (sameB a.data.toList b.data.toList),.int .i64 (max a.size b.size:Nat)])∧Below w.heap.size w w':=by
 have hx:=XK a.size b.size (by omega) (by omega)
 have I:a.data.toList.length=a.size:=by rw[qd];rfl
 have O:b.data.toList.length=b.size:=by rw[qd];rfl
 have Y:a.size^^^b.size=dist a.data.toList b.data.toList 0:=by rw[dist,I,O]
 rw[Y]at hx
 have E:max a.size b.size=a.size:=by omega
 have U:Hid (dist a.data.toList b.data.toList a.size=0↔a.data.toList=b.data.toList):=by
  have:=dist_eq a.data.toList b.data.toList
  rw[I,O,E]at this
  exact this
 have a2:=Lib.hid (dist_lt a.data.toList b.data.toList (by omega) (by omega))
 have aa:(b.size:Int)≤a.size:=by omega
 rw[E]
 clear I O Y E
 go_enter Tryz.func67,Tryz.ntmps67
 go_wp2
 go_loop [7,20] (fun d i=>∃t:Nat,t≤a.size∧i=.int .i64 t∧d=.int .i64 (dist a.data.toList b.data.toList t:Nat)) (fun _ i=>a.size-(intOf i).toNat)
 case atStart=>exact⟨0,Nat.zero_le _,rfl,rfl⟩
 case round=>
  clear hx
  obtain⟨t,ht,rfl,rfl⟩:=hrel
  by_cases hlt:t<a.size
  ·have a6:=a2.out t
   have ag:=u8_xor_nat (a.data.toList.getD t 0).toNat (b.data.toList.getD t 0).toNat (qc _) (qc _)
   have ae:(a.data.toList.getD t 0).toNat^^^(b.data.toList.getD t 0).toNat<256:=qe (n:=8) (qc _) (qc _)
   have ab:=VW (dist a.data.toList b.data.toList t) ((a.data.toList.getD t 0).toNat^^^(b.data.toList.getD t 0).toNat) a6 (by omega)
   have Z:Hid (dist a.data.toList b.data.toList (t+1)=dist a.data.toList b.data.toList t|||((a.data.toList.getD t 0).toNat^^^(b.data.toList.getD t 0).toNat)):=rfl
   have hA:=at_any a t
   have hB:=at_any b t
   generalize(a.data.toList.getD t 0).toNat=x at*
   generalize(b.data.toList.getD t 0).toNat=y at*
   have HA:=Lib.hid hA
   have HB:=Lib.hid hB
   clear hA hB
   generalize dist a.data.toList b.data.toList t=d at*
   go_wp2_with fail
   refine(HA.out _).mono ?_
   rintro e w' ⟨rfl,rfl⟩
   go_wp2_with fail
   refine(HB.out _).mono ?_
   rintro e w' ⟨rfl,rfl⟩
   go_wp2_with fail
   go_round
   case rel=>exact⟨t+1,by omega,by go_num,by rw[Z.out]⟩
   case measure=>simp[intOf];omega
  ·have et:t=a.size:=by omega
   have hz:Hid ((((dist a.data.toList b.data.toList t:Nat):Int)==0)=sameB a.data.toList b.data.toList):=by
    show _=_
    rw[et,Bool.eq_iff_iff,beq_iff_eq,sameB,decide_eq_true_iff,←U.out];omega
   generalize dist a.data.toList b.data.toList t=d at*
   clear et
   go_wp2_with fail
   go_ret2
   refine⟨?_,Below.refl _ _⟩
   rw[←hz.out]
   rfl
theorem equal_any(a b:ByteArray)(w:World)(ha:a.size<4611686018427387904)(hb:b.size<4611686018427387904):
 Calls qf 67 #[.string a,.string b] w fun e w'=>e=.returned (.tuple #[.bool (sameB a.data.toList b.data.toList),.int .i64 (max a.size b.size:Nat)])∧Below w.heap.size w w':=by
 by_cases h:a.size<b.size
 ·exact equal_lt a b w ha hb h
 ·exact equal_ge a b w ha hb (by omega)
end Go.Proofs.YthohbneadomgdaaGreatDoor
