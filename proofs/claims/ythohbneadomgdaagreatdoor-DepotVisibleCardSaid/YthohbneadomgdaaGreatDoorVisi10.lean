import Derived.Shelf.Strings.Builder1
import Derived.Shelf.Strings.Builder2
import Derived.Shelf.Strings.Trim
import Derived.Shelf.Small.Utf8
import Derived.Shelf.Small.Bits
import Derived.Shelf.Small.Strs
import Derived.Shelf.Small.Wraps
import Derived.Shelf.Strings.BuilderF
import Derived.Shelf.Strings.BuilderK
import Derived.Shelf.Strings.Builder2Cap
import Derived.Shelf.Strconv.Itoa0
import Derived.Shelf.Strings.Search1
import Derived.Shelf.Strings.Prefix
import Derived.Shelf.Strings.Runes
import Derived.Shelf.Strings.AsciiSet
import Derived.Shelf.Bits.Mul64
import Derived.Shelf.Strings.Repeat
import Derived.Shelf.Unicode.DecodeSlow
import Derived.Shelf.Strings.BuilderCap
import Derived.Ground.SlgmProg
import Derived.Shelf.SortM.Plain
import Derived.Shelf.SortM.SortNone
import Derived.Test.YthohbneadomgdaaGreatDoorProg
import Derived.Test.YthohbneadomgdaaGreatDoorVisi09
import Derived.Lib.Strings
import Derived.Lib.TrimByte
set_option linter.all false
set_option maxRecDepth 100000
set_option maxHeartbeats 16000000
open Nat renaming reduceLT→yQ,reduceEqDiff→yK,reduceAdd→yV,reduceSub→yY,reduceMul→yU
open Int renaming reduceToNat→yW,reduceLE→yX,reduceEq→yZ,reduceLT→yJ
open Go.Proofs.Tryz renaming prog→qc,underlying3→qd,underlying9→qe,underlying4→qf,underlying161→qi,underlying40→qj,underlying5→qk,zeroValue3→qo,zeroValue4→qp,zeroValue9→qq,zeroValue161→qw,sizeOf3→qA,sizeOf4→qB,zeroValue5→qC,sizeOf9→qD,sizeOf161→qF,isAgg3→qH,isAgg4→qI,isAgg9→qJ,underlying222→qK,isAgg161→qN
open List renaming mem_map→qh,map_cons→qm,getElem?_eq_some_iff→qt,getElem?_eq_getElem→qu,ext_getElem?→qx,replicate→qG,find?_eq_none→qL,mem_singleton→qM
open Nat renaming ble→qv,le_of_ble_eq_true→qy
open Option renaming map_some→qE
namespace Go.Proofs
open Go.Shelf
def Tryz.lays160_ren:Go.Shelf.Ren:=⟨fun|160=>85|232=>137|231=>136|227=>138|234=>140|233=>139|236=>142|235=>141|228=>195|271=>198|151=>197|197=>196|120=>234|152=>233|260=>232|137=>250|119=>251|224=>252|225=>253|217=>256|266=>257|n=>n,fun|9=>9|4=>4|3=>3|5=>5|117=>207|116=>206|0=>0|124=>210|21=>21|105=>253|46=>161|119=>295|139=>298|138=>297|n=>n,fun|3=>1|4=>2|n=>n⟩
theorem Tryz.lays160:Go.Proofs.Lays.n160 qc Tryz.lays160_ren:={
 mixed:=by kernel_rfl
 f119:=Tryz.func251.trans (congrArg some (by kernel_rfl))
 f120:=Tryz.func234.trans (congrArg some (by kernel_rfl))
 f137:=Tryz.func250.trans (congrArg some (by kernel_rfl))
 f151:=Tryz.func197.trans (congrArg some (by kernel_rfl))
 f152:=Tryz.func233.trans (congrArg some (by kernel_rfl))
 f160:=Tryz.func85.trans (congrArg some (by kernel_rfl))
 f197:=Tryz.func196.trans (congrArg some (by kernel_rfl))
 f217:=Tryz.func256.trans (congrArg some (by kernel_rfl))
 f224:=Tryz.func252.trans (congrArg some (by kernel_rfl))
 f225:=Tryz.func253.trans (congrArg some (by kernel_rfl))
 f227:=Tryz.func138.trans (congrArg some (by kernel_rfl))
 f228:=Tryz.func195.trans (congrArg some (by kernel_rfl))
 f231:=Tryz.func136.trans (congrArg some (by kernel_rfl))
 f232:=Tryz.func137.trans (congrArg some (by kernel_rfl))
 f233:=Tryz.func139.trans (congrArg some (by kernel_rfl))
 f234:=Tryz.func140.trans (congrArg some (by kernel_rfl))
 f235:=Tryz.func141.trans (congrArg some (by kernel_rfl))
 f236:=Tryz.func142.trans (congrArg some (by kernel_rfl))
 f260:=Tryz.func232.trans (congrArg some (by kernel_rfl))
 f266:=Tryz.func257.trans (congrArg some (by kernel_rfl))
 f271:=Tryz.func198.trans (congrArg some (by kernel_rfl))
 t0:=Tryz.underlying0
 a0:=Tryz.isAgg0
 z0:=Tryz.sizeOf0
 v0:=Tryz.zeroValue0
 t3:=qd
 a3:=qH
 z3:=qA
 v3:=qo
 t4:=qf
 a4:=qI
 z4:=qB
 v4:=qp
 t5:=qk
 a5:=Tryz.isAgg5
 z5:=Tryz.sizeOf5
 v5:=qC
 t9:=qe
 a9:=qJ
 z9:=qD
 v9:=qq
 t21:=Tryz.underlying21
 a21:=Tryz.isAgg21
 z21:=Tryz.sizeOf21
 v21:=Tryz.zeroValue21
 t46:=qi
 a46:=qN
 z46:=qF
 v46:=qw
 t105:=Tryz.underlying253
 a105:=Tryz.isAgg253
 z105:=Tryz.sizeOf253
 v105:=Tryz.zeroValue253
 t116:=Tryz.underlying206
 a116:=Tryz.isAgg206
 z116:=Tryz.sizeOf206
 t117:=Tryz.underlying207
 a117:=Tryz.isAgg207
 z117:=Tryz.sizeOf207
 v117:=Tryz.zeroValue207
 t119:=Tryz.underlying295
 a119:=Tryz.isAgg295
 z119:=Tryz.sizeOf295
 t124:=Tryz.underlying210
 a124:=Tryz.isAgg210
 z124:=Tryz.sizeOf210
 v124:=Tryz.zeroValue210
 t138:=Tryz.underlying297
 a138:=Tryz.isAgg297
 z138:=Tryz.sizeOf297
 v138:=Tryz.zeroValue297
 t139:=Tryz.underlying298
 a139:=Tryz.isAgg298
 z139:=Tryz.sizeOf298
 v139:=Tryz.zeroValue298
 g3:=by kernel_rfl
 g4:=by kernel_rfl }
open Go.RowKit in
theorem Tryz.strings_Trim_one(s:ByteArray)(c:UInt8)(hc:c.toNat<128)(w:World)(hs:s.size≤9223372036854775807):
 Calls qc 85 #[.string s,.string ⟨#[c]⟩] w fun e w'=>e=.returned (.string ⟨(Lib.trimB s.data.toList c).toArray⟩)∧(w'=w∨w'=w.drew):=Any.strings_Trim_one Tryz.lays160 s c hc w hs
def Tryz.lays125_ren:Go.Shelf.Ren:=⟨fun|125=>104|128=>159|129=>160|n=>n,fun|46=>161|3=>3|51=>222|53=>40|4=>4|5=>5|9=>9|n=>n,fun|n=>n⟩
theorem Tryz.lays125:Go.Proofs.Lays.n125 qc Tryz.lays125_ren:={
 mixed:=by kernel_rfl
 f125:=Tryz.func104.trans (congrArg some (by kernel_rfl))
 f128:=Tryz.func159.trans (congrArg some (by kernel_rfl))
 f129:=Tryz.func160.trans (congrArg some (by kernel_rfl))
 t3:=qd
 a3:=qH
 z3:=qA
 v3:=qo
 t4:=qf
 a4:=qI
 z4:=qB
 v4:=qp
 t5:=qk
 a5:=Tryz.isAgg5
 z5:=Tryz.sizeOf5
 v5:=qC
 t9:=qe
 a9:=qJ
 z9:=qD
 v9:=qq
 t46:=qi
 a46:=qN
 z46:=qF
 v46:=qw
 t51:=qK
 a51:=Tryz.isAgg222
 z51:=Tryz.sizeOf222
 v51:=Tryz.zeroValue222
 t53:=qj
 a53:=Tryz.isAgg40
 z53:=Tryz.sizeOf40
 v53:=Tryz.zeroValue40 }
theorem Tryz.bits_Len(x:Int)(w:World)(h0:0≤x)(h1:x≤18446744073709551615):
 Calls qc 104 #[.int .u64 x] w fun e w'=>e=.returned (.int .i64 (Lib.bitLen x.toNat))∧w'=w:=Any.bits_Len Tryz.lays125 x w h0 h1
def Tryz.lays103_ren:Go.Shelf.Ren:=⟨fun|103=>84|210=>135|206=>146|n=>n,fun|9=>9|4=>4|24=>147|3=>3|n=>n,fun|n=>n⟩
theorem Tryz.lays103:Go.Proofs.Lays.n103 qc Tryz.lays103_ren:={
 mixed:=by kernel_rfl
 f103:=Tryz.func84.trans (congrArg some (by kernel_rfl))
 f206:=Tryz.func146.trans (congrArg some (by kernel_rfl))
 f210:=Tryz.func135.trans (congrArg some (by kernel_rfl))
 t3:=qd
 a3:=qH
 z3:=qA
 v3:=qo
 t4:=qf
 a4:=qI
 z4:=qB
 v4:=qp
 t9:=qe
 a9:=qJ
 z9:=qD
 v9:=qq
 t24:=Tryz.underlying147
 a24:=Tryz.isAgg147
 z24:=Tryz.sizeOf147
 v24:=Tryz.zeroValue147 }
open Go.RowKit in
theorem Tryz.strings_CutPrefix(s p:ByteArray)(w:World):
 Calls qc 84 #[.string s,.string p] w fun e w'=>e=.returned (.tuple #[.string ⟨(Lib.trimPrefix s.data.toList p.data.toList).toArray⟩,.bool (Lib.hasPrefix s.data.toList p.data.toList)])∧w'=w:=Any.strings_CutPrefix Tryz.lays103 s p w
def Tryz.lays99_ren:Go.Shelf.Ren:=⟨fun|99=>93|206=>146|n=>n,fun|9=>9|4=>4|3=>3|n=>n,fun|n=>n⟩
theorem Tryz.lays99:Go.Proofs.Lays.n99 qc Tryz.lays99_ren:={
 mixed:=by kernel_rfl
 f99:=Tryz.func93.trans (congrArg some (by kernel_rfl))
 f206:=Tryz.func146.trans (congrArg some (by kernel_rfl))
 t3:=qd
 a3:=qH
 z3:=qA
 v3:=qo
 t4:=qf
 a4:=qI
 z4:=qB
 v4:=qp
 t9:=qe
 a9:=qJ
 z9:=qD
 v9:=qq }
open Go.RowKit Go.Lib in
theorem Tryz.strings_HasPrefix(s p:ByteArray)(w:World):
 Calls qc 93 #[.string s,.string p] w fun e w'=>e=.returned (.bool (Lib.hasPrefix s.data.toList p.data.toList))∧w'=w:=Any.strings_HasPrefix Tryz.lays99 s p w
def Tryz.lays212_ren:Go.Shelf.Ren:=⟨fun|212=>110|263=>169|264=>170|n=>n,fun|46=>161|51=>222|146=>227|53=>40|148=>229|n=>n,fun|n=>n⟩
theorem Tryz.lays212:Go.Proofs.Lays.n212 qc Tryz.lays212_ren:={
 mixed:=by kernel_rfl
 f212:=Tryz.func110.trans (congrArg some (by kernel_rfl))
 f263:=Tryz.func169.trans (congrArg some (by kernel_rfl))
 f264:=Tryz.func170.trans (congrArg some (by kernel_rfl))
 t46:=qi
 a46:=qN
 z46:=qF
 v46:=qw
 t51:=qK
 a51:=Tryz.isAgg222
 z51:=Tryz.sizeOf222
 v51:=Tryz.zeroValue222
 t53:=qj
 a53:=Tryz.isAgg40
 z53:=Tryz.sizeOf40
 v53:=Tryz.zeroValue40
 t146:=Tryz.underlying227
 a146:=Tryz.isAgg227
 z146:=Tryz.sizeOf227
 v146:=Tryz.zeroValue227
 t148:=Tryz.underlying229
 a148:=Tryz.isAgg229
 z148:=Tryz.sizeOf229
 v148:=Tryz.zeroValue229 }
open Go.RowKit Go.Lib in
theorem Tryz.bits_Mul(x y:Nat)(hx:x<18446744073709551616)(hy:y<18446744073709551616)(w:World):
 Calls qc 110 #[.int .u64 x,.int .u64 y] w fun e w'=>e=.returned (.tuple #[.int .u64 ((x*y/18446744073709551616:Nat):Int),.int .u64 ((x*y%18446744073709551616:Nat):Int)])∧w'=w:=Any.bits_Mul Tryz.lays212 x y hx hy w
def Tryz.lays105_ren:Go.Shelf.Ren:=⟨fun|105=>62|212=>110|99=>93|165=>111|166=>112|170=>113|169=>114|263=>169|264=>170|206=>146|240=>171|241=>172|276=>213|277=>214|n=>n,fun|9=>9|3=>3|4=>4|20=>20|0=>0|46=>161|109=>173|5=>5|72=>177|76=>180|51=>222|146=>227|53=>40|148=>229|70=>175|37=>172|75=>179|127=>231|164=>264|80=>182|n=>n,fun|n=>n⟩
theorem Tryz.lays105:Go.Proofs.Lays.n105 qc Tryz.lays105_ren:={
 mixed:=by kernel_rfl
 f99:=Tryz.func93.trans (congrArg some (by kernel_rfl))
 f105:=Tryz.func62.trans (congrArg some (by kernel_rfl))
 f165:=Tryz.func111.trans (congrArg some (by kernel_rfl))
 f166:=Tryz.func112.trans (congrArg some (by kernel_rfl))
 f169:=Tryz.func114.trans (congrArg some (by kernel_rfl))
 f170:=Tryz.func113.trans (congrArg some (by kernel_rfl))
 f206:=Tryz.func146.trans (congrArg some (by kernel_rfl))
 f212:=Tryz.func110.trans (congrArg some (by kernel_rfl))
 f240:=Tryz.func171.trans (congrArg some (by kernel_rfl))
 f241:=Tryz.func172.trans (congrArg some (by kernel_rfl))
 f263:=Tryz.func169.trans (congrArg some (by kernel_rfl))
 f264:=Tryz.func170.trans (congrArg some (by kernel_rfl))
 f276:=Tryz.func213.trans (congrArg some (by kernel_rfl))
 f277:=Tryz.func214.trans (congrArg some (by kernel_rfl))
 t0:=Tryz.underlying0
 a0:=Tryz.isAgg0
 z0:=Tryz.sizeOf0
 v0:=Tryz.zeroValue0
 t3:=qd
 a3:=qH
 z3:=qA
 v3:=qo
 t4:=qf
 a4:=qI
 z4:=qB
 v4:=qp
 t5:=qk
 a5:=Tryz.isAgg5
 z5:=Tryz.sizeOf5
 v5:=qC
 t9:=qe
 a9:=qJ
 z9:=qD
 v9:=qq
 t20:=Tryz.underlying20
 a20:=Tryz.isAgg20
 z20:=Tryz.sizeOf20
 v20:=Tryz.zeroValue20
 t37:=Tryz.underlying172
 a37:=Tryz.isAgg172
 z37:=Tryz.sizeOf172
 v37:=Tryz.zeroValue172
 t46:=qi
 a46:=qN
 z46:=qF
 v46:=qw
 t51:=qK
 a51:=Tryz.isAgg222
 z51:=Tryz.sizeOf222
 v51:=Tryz.zeroValue222
 t53:=qj
 a53:=Tryz.isAgg40
 z53:=Tryz.sizeOf40
 v53:=Tryz.zeroValue40
 t70:=Tryz.underlying175
 a70:=Tryz.isAgg175
 z70:=Tryz.sizeOf175
 v70:=Tryz.zeroValue175
 t72:=Tryz.underlying177
 a72:=Tryz.isAgg177
 z72:=Tryz.sizeOf177
 v72:=Tryz.zeroValue177
 t75:=Tryz.underlying179
 a75:=Tryz.isAgg179
 z75:=Tryz.sizeOf179
 v75:=Tryz.zeroValue179
 t76:=Tryz.underlying180
 a76:=Tryz.isAgg180
 z76:=Tryz.sizeOf180
 v76:=Tryz.zeroValue180
 t109:=Tryz.underlying173
 a109:=Tryz.isAgg173
 z109:=Tryz.sizeOf173
 v109:=Tryz.zeroValue173
 t127:=Tryz.underlying231
 a127:=Tryz.isAgg231
 z127:=Tryz.sizeOf231
 v127:=Tryz.zeroValue231
 t146:=Tryz.underlying227
 a146:=Tryz.isAgg227
 z146:=Tryz.sizeOf227
 v146:=Tryz.zeroValue227
 t148:=Tryz.underlying229
 a148:=Tryz.isAgg229
 z148:=Tryz.sizeOf229
 v148:=Tryz.zeroValue229
 t164:=Tryz.underlying264
 a164:=Tryz.isAgg264
 z164:=Tryz.sizeOf264
 v164:=Tryz.zeroValue264 }
theorem Tryz.Builder_Extra_105:Builder.Extra qc Tryz.lays105_ren:={
 sizeBuilder:=by kernel_rfl
 liesBuilder:=by kernel_rfl
 t5:=qk
 a5:=Tryz.isAgg5
 z5:=Tryz.sizeOf5
 v5:=qC
 infoByte:=by kernel_rfl
 cellsByte:=by kernel_rfl
 sizeByte:=by kernel_rfl
 neB5:=by decide }
open Go.RowKit Go.Lib in
theorem Tryz.strings_Repeat(s:ByteArray)(c:Nat)(w:World)(hc:c≤9223372036854775807)(hlen:s.size*c≤140737488355328):
 Calls qc 62 #[.string s,.int .i64 c] w fun e w'=>e=.returned (.string ⟨(Lib.repeatL s.data.toList c).toArray⟩)∧Below w.heap.size w w':=Any.strings_Repeat Tryz.lays105 Tryz.Builder_Extra_105 s c w hc hlen
end Go.Proofs
namespace Go.Proofs.YthohbneadomgdaaGreatDoor.Abs
open Go Go.RowKit
theorem cutPrefix_spec(s p:ByteArray)(m:Mem):
 Spec qc 84 [.string s,.string p] m fun u M=>u=.tuple #[.string (str (Lib.trimPrefix s.data.toList p.data.toList)),.bool (Lib.hasPrefix s.data.toList p.data.toList)]∧M=m:=
 Spec.of_below rfl fun ι w ys hy hr=>by
  rw[VY (by simp[flat]) hy]
  refine(Tryz.strings_CutPrefix s p w).mono ?_
  rintro e w' ⟨rfl,rfl⟩
  exact⟨rfl,Below.refl _ _⟩
theorem UB(s:ByteArray)(c:UInt8)(hc:c.toNat<128)(hs:s.size≤9223372036854775807)(m:Mem):
 Spec qc 85 [.string s,.string (str [c])] m fun u M=>u=.string (str (Lib.trimB s.data.toList c))∧M=m:=
 Spec.of_below rfl fun ι w ys hy hr=>by
  rw[VY (by simp[flat]) hy]
  refine(Tryz.strings_Trim_one s c hc w hs).mono ?_
  rintro e w' ⟨rfl,rfl|rfl⟩
  ·exact⟨rfl,Below.refl _ _⟩
  ·exact⟨rfl,rfl,rfl,rfl,Nat.le_refl _,fun _ _=>rfl⟩
theorem hasPrefix_spec(s p:ByteArray)(m:Mem):
 Spec qc 93 [.string s,.string p] m fun u M=>u=.bool (Lib.hasPrefix s.data.toList p.data.toList)∧M=m:=
 Spec.of_below rfl fun ι w ys hy hr=>by
  rw[VY (by simp[flat]) hy]
  refine(Tryz.strings_HasPrefix s p w).mono ?_
  rintro e w' ⟨rfl,rfl⟩
  exact⟨rfl,Below.refl _ _⟩
theorem repeat_spec(s:ByteArray)(c:Nat)(hc:c≤9223372036854775807)(hlen:s.size*c≤140737488355328)(m:Mem):
 Spec qc 62 [.string s,.int .i64 c] m fun u M=>u=.string (str (Lib.repeatL s.data.toList c))∧M=m:=
 Spec.of_below rfl fun ι w ys hy hr=>by
  rw[VY (by simp[flat]) hy]
  refine(Tryz.strings_Repeat s c w hc hlen).mono ?_
  rintro e w' ⟨rfl,hb⟩
  exact⟨rfl,hb⟩
theorem mul_spec(x y:Nat)(hx:x<18446744073709551616)(hy:y<18446744073709551616)(m:Mem):
 Spec qc 110 [.int .u64 x,.int .u64 y] m fun u M=>u=.tuple #[.int .u64 ((x*y/18446744073709551616:Nat):Int),.int .u64 ((x*y%18446744073709551616:Nat):Int)]∧M=m:=
 Spec.of_below rfl fun ι w ys hys hr=>by
  rw[VY (by simp[flat]) hys]
  refine(Tryz.bits_Mul x y hx hy w).mono ?_
  rintro e w' ⟨rfl,rfl⟩
  exact⟨rfl,Below.refl _ _⟩
end Go.Proofs.YthohbneadomgdaaGreatDoor.Abs
namespace Go.Proofs.YthohbneadomgdaaGreatDoor
open Go.RowKit Abs
theorem bx_Dsk(xs:Array Value)(h:Jo xs.toList=true):QO qc 93 (.agg xs)=some (.cells false (J6 qc 93) xs.toList):=XH 93 h
theorem fa_Dsk0(b o:Nat):Jf qc 93 (.pointer (some ⟨b,o,none⟩)) 0=some (.pointer (some ⟨b,o,none⟩)):=by kernel_rfl
theorem fa_Dsk1(b o:Nat):Jf qc 93 (.pointer (some ⟨b,o,none⟩)) 1=some (.pointer (some ⟨b,o+1,none⟩)):=by kernel_rfl
theorem fa_Dsk2(b o:Nat):Jf qc 93 (.pointer (some ⟨b,o,none⟩)) 2=some (.pointer (some ⟨b,o+2,none⟩)):=by kernel_rfl
theorem fa_Dsk3(b o:Nat):Jf qc 93 (.pointer (some ⟨b,o,none⟩)) 3=some (.pointer (some ⟨b,o+3,none⟩)):=by kernel_rfl
theorem inf_Hdr:qc.info? 34=some Tryz.t34:=by kernel_rfl
theorem sz_Hdr:Tryz.t34.size=7:=rfl
theorem ld_Hdr(get:Nat→Option Blk)(b o:Nat):gLoad qc get 34 (.pointer (some ⟨b,o,none⟩))=Ju 7 o (get b):=Kj Tryz.underlying34 (ZN _) inf_Hdr rfl get b o
theorem st_Hdr(m:Mem)(b o:Nat)(v:Value):Qf qc m 34 (.pointer (some ⟨b,o,none⟩)) v=Ji 7 m b o v.cells.toList (m.get b):=Xg inf_Hdr rfl m b o v
theorem al_Hdr:Qa qc 34=some (.cells false (J6 qc 34) [.int .i64 0,.string ⟨#[]⟩,.int .i64 0,.int .i64 0,.int .i64 0,.string ⟨#[]⟩,.string ⟨#[]⟩]):=by kernel_rfl
theorem bx_Hdr(xs:Array Value)(h:Jo xs.toList=true):QO qc 34 (.agg xs)=some (.cells false (J6 qc 34) xs.toList):=XH 34 h
theorem fa_Hdr0(b o:Nat):Jf qc 34 (.pointer (some ⟨b,o,none⟩)) 0=some (.pointer (some ⟨b,o,none⟩)):=by kernel_rfl
theorem fa_Hdr1(b o:Nat):Jf qc 34 (.pointer (some ⟨b,o,none⟩)) 1=some (.pointer (some ⟨b,o+1,none⟩)):=by kernel_rfl
theorem fa_Hdr2(b o:Nat):Jf qc 34 (.pointer (some ⟨b,o,none⟩)) 2=some (.pointer (some ⟨b,o+2,none⟩)):=by kernel_rfl
theorem fa_Hdr3(b o:Nat):Jf qc 34 (.pointer (some ⟨b,o,none⟩)) 3=some (.pointer (some ⟨b,o+3,none⟩)):=by kernel_rfl
theorem fa_Hdr4(b o:Nat):Jf qc 34 (.pointer (some ⟨b,o,none⟩)) 4=some (.pointer (some ⟨b,o+4,none⟩)):=by kernel_rfl
theorem fa_Hdr5(b o:Nat):Jf qc 34 (.pointer (some ⟨b,o,none⟩)) 5=some (.pointer (some ⟨b,o+5,none⟩)):=by kernel_rfl
theorem fa_Hdr6(b o:Nat):Jf qc 34 (.pointer (some ⟨b,o,none⟩)) 6=some (.pointer (some ⟨b,o+6,none⟩)):=by kernel_rfl
theorem inf_Ext:qc.info? 85=some Tryz.t85:=by kernel_rfl
theorem sz_Ext:Tryz.t85.size=8:=rfl
theorem ld_Ext(get:Nat→Option Blk)(b o:Nat):gLoad qc get 85 (.pointer (some ⟨b,o,none⟩))=Ju 8 o (get b):=Kj Tryz.underlying85 (ZN _) inf_Ext rfl get b o
theorem st_Ext(m:Mem)(b o:Nat)(v:Value):Qf qc m 85 (.pointer (some ⟨b,o,none⟩)) v=Ji 8 m b o v.cells.toList (m.get b):=Xg inf_Ext rfl m b o v
theorem al_Ext:Qa qc 85=some (.cells false (J6 qc 85) [.int .i64 0,.string ⟨#[]⟩,.int .i64 0,.int .i64 0,.int .i64 0,.string ⟨#[]⟩,.string ⟨#[]⟩,.int .i64 0]):=by kernel_rfl
theorem Kv(xs:Array Value)(h:Jo xs.toList=true):QO qc 85 (.agg xs)=some (.cells false (J6 qc 85) xs.toList):=XH 85 h
theorem fa_Ext0(b o:Nat):Jf qc 85 (.pointer (some ⟨b,o,none⟩)) 0=some (.pointer (some ⟨b,o,none⟩)):=by kernel_rfl
theorem fa_Ext1(b o:Nat):Jf qc 85 (.pointer (some ⟨b,o,none⟩)) 1=some (.pointer (some ⟨b,o+7,none⟩)):=by kernel_rfl
theorem inf_Keys:qc.info? 98=some Tryz.t98:=by kernel_rfl
theorem ld_Keys(get:Nat→Option Blk)(b o:Nat):gLoad qc get 98 (.pointer (some ⟨b,o,none⟩))=Ju 3 o (get b):=Kj Tryz.underlying98 (ZN _) inf_Keys rfl get b o
theorem st_Keys(m:Mem)(b o:Nat)(v:Value):Qf qc m 98 (.pointer (some ⟨b,o,none⟩)) v=Ji 3 m b o v.cells.toList (m.get b):=Xg inf_Keys rfl m b o v
theorem al_Keys:Qa qc 98=some (.cells false (J6 qc 98) [.string ⟨#[]⟩,.string ⟨#[]⟩,.string ⟨#[]⟩]):=by kernel_rfl
theorem bx_Keys(xs:Array Value)(h:Jo xs.toList=true):QO qc 98 (.agg xs)=some (.cells false (J6 qc 98) xs.toList):=XH 98 h
theorem fa_Keys0(b o:Nat):Jf qc 98 (.pointer (some ⟨b,o,none⟩)) 0=some (.pointer (some ⟨b,o,none⟩)):=by kernel_rfl
theorem fa_Keys1(b o:Nat):Jf qc 98 (.pointer (some ⟨b,o,none⟩)) 1=some (.pointer (some ⟨b,o+1,none⟩)):=by kernel_rfl
theorem bx_Dep(xs:Array Value)(h:Jo xs.toList=true):QO qc 74 (.agg xs)=some (.cells false (J6 qc 74) xs.toList):=XH 74 h
theorem fa_Dep0(b o:Nat):Jf qc 74 (.pointer (some ⟨b,o,none⟩)) 0=some (.pointer (some ⟨b,o,none⟩)):=by kernel_rfl
theorem fa_Dep1(b o:Nat):Jf qc 74 (.pointer (some ⟨b,o,none⟩)) 1=some (.pointer (some ⟨b,o+1,none⟩)):=by kernel_rfl
theorem fa_Dep2(b o:Nat):Jf qc 74 (.pointer (some ⟨b,o,none⟩)) 2=some (.pointer (some ⟨b,o+2,none⟩)):=by kernel_rfl
theorem fa_Dep3(b o:Nat):Jf qc 74 (.pointer (some ⟨b,o,none⟩)) 3=some (.pointer (some ⟨b,o+3,none⟩)):=by kernel_rfl
theorem fa_Dep4(b o:Nat):Jf qc 74 (.pointer (some ⟨b,o,none⟩)) 4=some (.pointer (some ⟨b,o+7,none⟩)):=by kernel_rfl
theorem fa_Dep5(b o:Nat):Jf qc 74 (.pointer (some ⟨b,o,none⟩)) 5=some (.pointer (some ⟨b,o+15,none⟩)):=by kernel_rfl
theorem inf_Set:qc.info? 43=some Tryz.t43:=by kernel_rfl
theorem ld_Set(get:Nat→Option Blk)(b o:Nat):gLoad qc get 43 (.pointer (some ⟨b,o,none⟩))=Ju 5 o (get b):=Kj Tryz.underlying43 (ZN _) inf_Set rfl get b o
theorem st_Set(m:Mem)(b o:Nat)(v:Value):Qf qc m 43 (.pointer (some ⟨b,o,none⟩)) v=Ji 5 m b o v.cells.toList (m.get b):=Xg inf_Set rfl m b o v
theorem al_Set:Qa qc 43=some (.cells false (J6 qc 43) [.int .i64 0,.int .u64 0,.int .u64 0,.int .u64 0,.int .u64 0]):=by kernel_rfl
theorem bx_Set(xs:Array Value)(h:Jo xs.toList=true):QO qc 43 (.agg xs)=some (.cells false (J6 qc 43) xs.toList):=XH 43 h
theorem fa_Set0(b o:Nat):Jf qc 43 (.pointer (some ⟨b,o,none⟩)) 0=some (.pointer (some ⟨b,o,none⟩)):=by kernel_rfl
theorem fa_Set1(b o:Nat):Jf qc 43 (.pointer (some ⟨b,o,none⟩)) 1=some (.pointer (some ⟨b,o+1,none⟩)):=by kernel_rfl
theorem inf_Rec:qc.info? 88=some Tryz.t88:=by kernel_rfl
theorem ld_Rec(get:Nat→Option Blk)(b o:Nat):gLoad qc get 88 (.pointer (some ⟨b,o,none⟩))=Ju 13 o (get b):=Kj Tryz.underlying88 (ZN _) inf_Rec rfl get b o
theorem st_Rec(m:Mem)(b o:Nat)(v:Value):Qf qc m 88 (.pointer (some ⟨b,o,none⟩)) v=Ji 13 m b o v.cells.toList (m.get b):=Xg inf_Rec rfl m b o v
theorem al_Rec:Qa qc 88=some (.cells false (J6 qc 88) [.int .i64 0,.string ⟨#[]⟩,.int .i64 0,.int .i64 0,.int .i64 0,.string ⟨#[]⟩,.string ⟨#[]⟩,.int .i64 0,.int .i64 0,.int .u64 0,.int .u64 0,.int .u64 0,.int .u64 0]):=by kernel_rfl
theorem bx_Rec(xs:Array Value)(h:Jo xs.toList=true):QO qc 88 (.agg xs)=some (.cells false (J6 qc 88) xs.toList):=XH 88 h
theorem fa_Rec0(b o:Nat):Jf qc 88 (.pointer (some ⟨b,o,none⟩)) 0=some (.pointer (some ⟨b,o,none⟩)):=by kernel_rfl
theorem fa_Rec1(b o:Nat):Jf qc 88 (.pointer (some ⟨b,o,none⟩)) 1=some (.pointer (some ⟨b,o+8,none⟩)):=by kernel_rfl
theorem inf_Arc:qc.info? 36=some Tryz.t36:=by kernel_rfl
theorem sz_Arc:Tryz.t36.size=8:=rfl
theorem ld_Arc(get:Nat→Option Blk)(b o:Nat):gLoad qc get 36 (.pointer (some ⟨b,o,none⟩))=Ju 8 o (get b):=Kj Tryz.underlying36 (ZN _) inf_Arc rfl get b o
theorem st_Arc(m:Mem)(b o:Nat)(v:Value):Qf qc m 36 (.pointer (some ⟨b,o,none⟩)) v=Ji 8 m b o v.cells.toList (m.get b):=Xg inf_Arc rfl m b o v
theorem al_Arc:Qa qc 36=some (.cells false (J6 qc 36) [.int .i64 0,.string ⟨#[]⟩,.int .i64 0,.int .i64 0,.int .i64 0,.string ⟨#[]⟩,.string ⟨#[]⟩,.slice none 0 0]):=by kernel_rfl
theorem bx_Arc(xs:Array Value)(h:Jo xs.toList=true):QO qc 36 (.agg xs)=some (.cells false (J6 qc 36) xs.toList):=XH 36 h
theorem fa_Arc0(b o:Nat):Jf qc 36 (.pointer (some ⟨b,o,none⟩)) 0=some (.pointer (some ⟨b,o,none⟩)):=by kernel_rfl
theorem fa_Arc1(b o:Nat):Jf qc 36 (.pointer (some ⟨b,o,none⟩)) 1=some (.pointer (some ⟨b,o+7,none⟩)):=by kernel_rfl
theorem bx_House(xs:Array Value)(h:Jo xs.toList=true):QO qc 32 (.agg xs)=some (.cells false (J6 qc 32) xs.toList):=XH 32 h
theorem fa_House0(b o:Nat):Jf qc 32 (.pointer (some ⟨b,o,none⟩)) 0=some (.pointer (some ⟨b,o,none⟩)):=by kernel_rfl
theorem fa_House1(b o:Nat):Jf qc 32 (.pointer (some ⟨b,o,none⟩)) 1=some (.pointer (some ⟨b,o+1,none⟩)):=by kernel_rfl
theorem fa_House2(b o:Nat):Jf qc 32 (.pointer (some ⟨b,o,none⟩)) 2=some (.pointer (some ⟨b,o+2,none⟩)):=by kernel_rfl
theorem fa_House3(b o:Nat):Jf qc 32 (.pointer (some ⟨b,o,none⟩)) 3=some (.pointer (some ⟨b,o+3,none⟩)):=by kernel_rfl
theorem fa_House4(b o:Nat):Jf qc 32 (.pointer (some ⟨b,o,none⟩)) 4=some (.pointer (some ⟨b,o+4,none⟩)):=by kernel_rfl
theorem fa_House5(b o:Nat):Jf qc 32 (.pointer (some ⟨b,o,none⟩)) 5=some (.pointer (some ⟨b,o+5,none⟩)):=by kernel_rfl
theorem bx_RDsk(xs:Array Value)(h:Jo xs.toList=true):QO qc 126 (.agg xs)=some (.cells false (J6 qc 126) xs.toList):=XH 126 h
theorem fa_RDsk0(b o:Nat):Jf qc 126 (.pointer (some ⟨b,o,none⟩)) 0=some (.pointer (some ⟨b,o,none⟩)):=by kernel_rfl
theorem fa_RDsk1(b o:Nat):Jf qc 126 (.pointer (some ⟨b,o,none⟩)) 1=some (.pointer (some ⟨b,o+1,none⟩)):=by kernel_rfl
theorem fa_RDsk2(b o:Nat):Jf qc 126 (.pointer (some ⟨b,o,none⟩)) 2=some (.pointer (some ⟨b,o+2,none⟩)):=by kernel_rfl
theorem fa_RDsk3(b o:Nat):Jf qc 126 (.pointer (some ⟨b,o,none⟩)) 3=some (.pointer (some ⟨b,o+3,none⟩)):=by kernel_rfl
theorem fa_RDsk4(b o:Nat):Jf qc 126 (.pointer (some ⟨b,o,none⟩)) 4=some (.pointer (some ⟨b,o+4,none⟩)):=by kernel_rfl
theorem bx_RDep(xs:Array Value)(h:Jo xs.toList=true):QO qc 185 (.agg xs)=some (.cells false (J6 qc 185) xs.toList):=XH 185 h
theorem fa_RDep2(b o:Nat):Jf qc 185 (.pointer (some ⟨b,o,none⟩)) 2=some (.pointer (some ⟨b,o+2,none⟩)):=by kernel_rfl
theorem fa_RDep3(b o:Nat):Jf qc 185 (.pointer (some ⟨b,o,none⟩)) 3=some (.pointer (some ⟨b,o+3,none⟩)):=by kernel_rfl
theorem fa_RDep4(b o:Nat):Jf qc 185 (.pointer (some ⟨b,o,none⟩)) 4=some (.pointer (some ⟨b,o+4,none⟩)):=by kernel_rfl
theorem inf_Slot:qc.info? 190=some Tryz.t190:=by kernel_rfl
theorem sz_Slot:Tryz.t190.size=10:=rfl
theorem inf_A8:qc.info? 72=some Tryz.t72:=by kernel_rfl
theorem ld_A8(get:Nat→Option Blk)(b o:Nat):gLoad qc get 72 (.pointer (some ⟨b,o,none⟩))=Ju 8 o (get b):=Kj Tryz.underlying72 (row_array _ _) inf_A8 rfl get b o
theorem inf_A4:qc.info? 70=some Tryz.t70:=by kernel_rfl
theorem ld_A4(get:Nat→Option Blk)(b o:Nat):gLoad qc get 70 (.pointer (some ⟨b,o,none⟩))=Ju 4 o (get b):=Kj Tryz.underlying70 (row_array _ _) inf_A4 rfl get b o
theorem inf_W4:qc.info? 41=some Tryz.t41:=by kernel_rfl
theorem ld_W4(get:Nat→Option Blk)(b o:Nat):gLoad qc get 41 (.pointer (some ⟨b,o,none⟩))=Ju 4 o (get b):=Kj Tryz.underlying41 (row_array _ _) inf_W4 rfl get b o
theorem Zx:qc.info? 9=some Tryz.t9:=by kernel_rfl
theorem sz_Str:Tryz.t9.size=1:=rfl
theorem ld_Str(get:Nat→Option Blk)(b o:Nat):gLoad qc get 9 (.pointer (some ⟨b,o,none⟩))=cellIn o (get b):=Xe qe rfl get b o
theorem st_Str(m:Mem)(b o:Nat)(v:Value):Qf qc m 9 (.pointer (some ⟨b,o,none⟩)) v=Ji 1 m b o v.cells.toList (m.get b):=Xg Zx rfl m b o v
theorem inf_Int:qc.info? 3=some Tryz.t3:=by kernel_rfl
theorem ld_Int(get:Nat→Option Blk)(b o:Nat):gLoad qc get 3 (.pointer (some ⟨b,o,none⟩))=cellIn o (get b):=Xe qd rfl get b o
theorem st_Int(m:Mem)(b o:Nat)(v:Value):Qf qc m 3 (.pointer (some ⟨b,o,none⟩)) v=Ji 1 m b o v.cells.toList (m.get b):=Xg inf_Int rfl m b o v
theorem al_Int:Qa qc 3=some (.cells false (J6 qc 3) [.int .i64 0]):=by kernel_rfl
theorem inf_Bool:qc.info? 4=some Tryz.t4:=by kernel_rfl
theorem sz_Bool:Tryz.t4.size=1:=rfl
theorem ld_Bool(get:Nat→Option Blk)(b o:Nat):gLoad qc get 4 (.pointer (some ⟨b,o,none⟩))=cellIn o (get b):=Xe qf rfl get b o
theorem st_Bool(m:Mem)(b o:Nat)(v:Value):Qf qc m 4 (.pointer (some ⟨b,o,none⟩)) v=Ji 1 m b o v.cells.toList (m.get b):=Xg inf_Bool rfl m b o v
theorem inf_U64:qc.info? 40=some Tryz.t40:=by kernel_rfl
theorem sz_U64:Tryz.t40.size=1:=rfl
theorem ld_U64(get:Nat→Option Blk)(b o:Nat):gLoad qc get 40 (.pointer (some ⟨b,o,none⟩))=cellIn o (get b):=Xe qj rfl get b o
theorem st_U64(m:Mem)(b o:Nat)(v:Value):Qf qc m 40 (.pointer (some ⟨b,o,none⟩)) v=Ji 1 m b o v.cells.toList (m.get b):=Xg inf_U64 rfl m b o v
theorem inf_SS:qc.info? 25=some Tryz.t25:=by kernel_rfl
theorem ld_SS(get:Nat→Option Blk)(b o:Nat):gLoad qc get 25 (.pointer (some ⟨b,o,none⟩))=cellIn o (get b):=Xe Tryz.underlying25 rfl get b o
theorem st_SS(m:Mem)(b o:Nat)(v:Value):Qf qc m 25 (.pointer (some ⟨b,o,none⟩)) v=Ji 1 m b o v.cells.toList (m.get b):=Xg inf_SS rfl m b o v
theorem inf_Err:qc.info? 37=some Tryz.t37:=by kernel_rfl
theorem ld_Err(get:Nat→Option Blk)(b o:Nat):gLoad qc get 37 (.pointer (some ⟨b,o,none⟩))=cellIn o (get b):=Xe Tryz.underlying37 rfl get b o
theorem st_Err(m:Mem)(b o:Nat)(v:Value):Qf qc m 37 (.pointer (some ⟨b,o,none⟩)) v=Ji 1 m b o v.cells.toList (m.get b):=Xg inf_Err rfl m b o v
theorem al_Err:Qa qc 37=some (.cells false (J6 qc 37) [.int .i64 0]):=by kernel_rfl
theorem ld_Map(get:Nat→Option Blk)(b o:Nat):gLoad qc get 91 (.pointer (some ⟨b,o,none⟩))=cellIn o (get b):=Xe Tryz.underlying91 rfl get b o
theorem inf_PD:qc.info? 26=some Tryz.t26:=by kernel_rfl
theorem ld_PD(get:Nat→Option Blk)(b o:Nat):gLoad qc get 26 (.pointer (some ⟨b,o,none⟩))=cellIn o (get b):=Xe Tryz.underlying26 rfl get b o
theorem st_PD(m:Mem)(b o:Nat)(v:Value):Qf qc m 26 (.pointer (some ⟨b,o,none⟩)) v=Ji 1 m b o v.cells.toList (m.get b):=Xg inf_PD rfl m b o v
theorem inf_PRD:qc.info? 28=some Tryz.t28:=by kernel_rfl
theorem ld_PRD(get:Nat→Option Blk)(b o:Nat):gLoad qc get 28 (.pointer (some ⟨b,o,none⟩))=cellIn o (get b):=Xe Tryz.underlying28 rfl get b o
theorem st_PRD(m:Mem)(b o:Nat)(v:Value):Qf qc m 28 (.pointer (some ⟨b,o,none⟩)) v=Ji 1 m b o v.cells.toList (m.get b):=Xg inf_PRD rfl m b o v
theorem inf_PDep:qc.info? 27=some Tryz.t27:=by kernel_rfl
theorem ld_PDep(get:Nat→Option Blk)(b o:Nat):gLoad qc get 27 (.pointer (some ⟨b,o,none⟩))=cellIn o (get b):=Xe Tryz.underlying27 rfl get b o
theorem st_PDep(m:Mem)(b o:Nat)(v:Value):Qf qc m 27 (.pointer (some ⟨b,o,none⟩)) v=Ji 1 m b o v.cells.toList (m.get b):=Xg inf_PDep rfl m b o v
theorem inf_PRDep:qc.info? 29=some Tryz.t29:=by kernel_rfl
theorem st_PRDep(m:Mem)(b o:Nat)(v:Value):Qf qc m 29 (.pointer (some ⟨b,o,none⟩)) v=Ji 1 m b o v.cells.toList (m.get b):=Xg inf_PRDep rfl m b o v
theorem inf_PRec:qc.info? 69=some Tryz.t69:=by kernel_rfl
theorem sz_PRec:Tryz.t69.size=1:=rfl
theorem ld_PRec(get:Nat→Option Blk)(b o:Nat):gLoad qc get 69 (.pointer (some ⟨b,o,none⟩))=cellIn o (get b):=Xe Tryz.underlying69 rfl get b o
theorem st_PRec(m:Mem)(b o:Nat)(v:Value):Qf qc m 69 (.pointer (some ⟨b,o,none⟩)) v=Ji 1 m b o v.cells.toList (m.get b):=Xg inf_PRec rfl m b o v
theorem inf_PExt:qc.info? 71=some Tryz.t71:=by kernel_rfl
theorem sz_PExt:Tryz.t71.size=1:=rfl
theorem ld_PExt(get:Nat→Option Blk)(b o:Nat):gLoad qc get 71 (.pointer (some ⟨b,o,none⟩))=cellIn o (get b):=Xe Tryz.underlying71 rfl get b o
theorem st_PExt(m:Mem)(b o:Nat)(v:Value):Qf qc m 71 (.pointer (some ⟨b,o,none⟩)) v=Ji 1 m b o v.cells.toList (m.get b):=Xg inf_PExt rfl m b o v
theorem ld_Arcs(get:Nat→Option Blk)(b o:Nat):gLoad qc get 30 (.pointer (some ⟨b,o,none⟩))=cellIn o (get b):=Xe Tryz.underlying30 rfl get b o
theorem inf_Slots:qc.info? 183=some Tryz.t183:=by kernel_rfl
theorem ld_Slots(get:Nat→Option Blk)(b o:Nat):gLoad qc get 183 (.pointer (some ⟨b,o,none⟩))=cellIn o (get b):=Xe Tryz.underlying183 rfl get b o
theorem st_Slots(m:Mem)(b o:Nat)(v:Value):Qf qc m 183 (.pointer (some ⟨b,o,none⟩)) v=Ji 1 m b o v.cells.toList (m.get b):=Xg inf_Slots rfl m b o v
theorem inf_Bools:qc.info? 124=some Tryz.t124:=by kernel_rfl
theorem ld_Bools(get:Nat→Option Blk)(b o:Nat):gLoad qc get 124 (.pointer (some ⟨b,o,none⟩))=cellIn o (get b):=Xe Tryz.underlying124 rfl get b o
theorem st_Bools(m:Mem)(b o:Nat)(v:Value):Qf qc m 124 (.pointer (some ⟨b,o,none⟩)) v=Ji 1 m b o v.cells.toList (m.get b):=Xg inf_Bools rfl m b o v
theorem cl_int(k:IntKind)(n:Int):(Value.int k n).cells.toList=[.int k n]:=rfl
theorem oc_int(k:IntKind)(n:Int):(Value.int k n).oneCell'=true:=rfl
theorem cl_string(s:ByteArray):(Value.string s).cells.toList=[.string s]:=rfl
theorem cl_bool(b:Bool):(Value.bool b).cells.toList=[.bool b]:=rfl
theorem oc_bool(b:Bool):(Value.bool b).oneCell'=true:=rfl
theorem cl_sl(a:Option Addr)(n c:Nat):(Value.slice a n c).cells.toList=[.slice a n c]:=rfl
theorem cl_pt(a:Option Addr):(Value.pointer a).cells.toList=[.pointer a]:=rfl
theorem oa_cons(v:Value)(r:List Value):Jo (v::r)=(v.oneCell'&&Jo r):=rfl
theorem oa_nil:Jo []=true:=rfl
theorem g_nt:((none:Option Bool)==some true)=false:=rfl
theorem undef_eq:undef=.tuple #[]:=rfl
theorem pt_1_0_1(m:Mem)(j s:Nat)(a0 x0:Value)(h:Jo [x0]=true):Ji 1 m j 0 [x0] (some (.cells false s [a0]))=some (m.set j (some (.cells false s [x0]))):=if_pos ⟨rfl,qy rfl,h⟩
theorem pt_4_2_1(m:Mem)(j s:Nat)(a0 a1 a2 a3 x0:Value)(h:Jo [x0]=true):Ji 1 m j 2 [x0] (some (.cells false s [a0,a1,a2,a3]))=some (m.set j (some (.cells false s [a0,a1,x0,a3]))):=if_pos ⟨rfl,qy rfl,h⟩
theorem pt_4_3_1(m:Mem)(j s:Nat)(a0 a1 a2 a3 x0:Value)(h:Jo [x0]=true):Ji 1 m j 3 [x0] (some (.cells false s [a0,a1,a2,a3]))=some (m.set j (some (.cells false s [a0,a1,a2,x0]))):=if_pos ⟨rfl,qy rfl,h⟩
def zDk:=And.intro (And.intro (And.intro (And.intro (And.intro (And.intro (And.intro @fa_Dsk0 @fa_Dsk1) (And.intro @fa_Dsk2 @fa_Dsk3)) (And.intro (And.intro @inf_Hdr @sz_Hdr) (And.intro @ld_Hdr @st_Hdr))) (And.intro (And.intro (And.intro @fa_Hdr0 @fa_Hdr1) (And.intro @fa_Hdr2 @fa_Hdr3)) (And.intro (And.intro @fa_Hdr4 @fa_Hdr5) (And.intro @fa_Hdr6 (And.intro @inf_Ext @sz_Ext))))) (And.intro (And.intro (And.intro (And.intro @ld_Ext @st_Ext) (And.intro @fa_Ext0 @fa_Ext1)) (And.intro (And.intro @ld_Keys @st_Keys) (And.intro @fa_Keys0 @fa_Keys1))) (And.intro (And.intro (And.intro @fa_Dep0 @fa_Dep1) (And.intro @fa_Dep2 @fa_Dep3)) (And.intro (And.intro @fa_Dep4 @fa_Dep5) (And.intro @ld_Set (And.intro @st_Set @fa_Set0)))))) (And.intro (And.intro (And.intro (And.intro (And.intro @fa_Set1 @ld_Rec) (And.intro @st_Rec @fa_Rec0)) (And.intro (And.intro @fa_Rec1 @inf_Arc) (And.intro @sz_Arc @ld_Arc))) (And.intro (And.intro (And.intro @st_Arc @fa_Arc0) (And.intro @fa_Arc1 @fa_House0)) (And.intro (And.intro @fa_House1 @fa_House2) (And.intro @fa_House3 (And.intro @fa_House4 @fa_House5))))) (And.intro (And.intro (And.intro (And.intro @fa_RDsk0 @fa_RDsk1) (And.intro @fa_RDsk2 @fa_RDsk3)) (And.intro (And.intro @fa_RDsk4 @fa_RDep2) (And.intro @fa_RDep3 @fa_RDep4))) (And.intro (And.intro (And.intro @ld_A8 @ld_A4) (And.intro @ld_W4 @ld_Str)) (And.intro (And.intro @st_Str @ld_Int) (And.intro @st_Int (And.intro @al_Int @inf_Bool))))))) (And.intro (And.intro (And.intro (And.intro (And.intro (And.intro @sz_Bool @ld_Bool) (And.intro @st_Bool @inf_U64)) (And.intro (And.intro @sz_U64 @ld_U64) (And.intro @st_U64 @ld_SS))) (And.intro (And.intro (And.intro @st_SS @ld_Err) (And.intro @st_Err @al_Err)) (And.intro (And.intro @ld_Map @ld_PD) (And.intro @st_PD (And.intro @ld_PRD @st_PRD))))) (And.intro (And.intro (And.intro (And.intro @ld_PDep @st_PDep) (And.intro @st_PRDep @inf_PRec)) (And.intro (And.intro @sz_PRec @ld_PRec) (And.intro @st_PRec @inf_PExt))) (And.intro (And.intro (And.intro @sz_PExt @ld_PExt) (And.intro @st_PExt @ld_Arcs)) (And.intro (And.intro @ld_Slots @st_Slots) (And.intro @ld_Bools (And.intro @st_Bools qe)))))) (And.intro (And.intro (And.intro (And.intro (And.intro qd qk) (And.intro qj qi)) (And.intro (And.intro Tryz.underlying25 Tryz.underlying172) (And.intro Tryz.underlying82 Tryz.underlying30))) (And.intro (And.intro (And.intro Tryz.underlying124 Tryz.underlying62) (And.intro Tryz.underlying22 Tryz.underlying79)) (And.intro (And.intro Tryz.underlying114 Tryz.underlying72) (And.intro Tryz.underlying70 (And.intro Tryz.underlying41 @cl_int))))) (And.intro (And.intro (And.intro (And.intro @oc_int @cl_string) (And.intro @cl_bool @oc_bool)) (And.intro (And.intro @cl_sl @cl_pt) (And.intro @oa_cons (And.intro @oa_nil @g_nt)))) (And.intro (And.intro (And.intro @undef_eq @Bool.and_self) (And.intro @Bool.true_and @agg_cells)) (And.intro (And.intro @setL.eq_1 @setL.eq_2) (And.intro @pt_1_0_1 (And.intro @pt_4_2_1 @pt_4_3_1)))))))
abbrev X0:=List (Nat×List UInt8×Nat)
structure Dsk where
 old:List (List UInt8)
 last:X0
 clock:Nat
 fuse:Int
 dead:Bool
def Jt(L:X0)(i:Nat):Option (List UInt8):=(L.find? fun x=>x.1==i).map (·.2.1)
def QW(L:X0):List MapEntry:=L.map fun x=>⟨.int .i64 (x.1:Nat),.string (str x.2.1),x.2.2⟩
def putL(L:X0)(i:Nat)(s:List UInt8)(c:Nat):X0:=match Jt L i with
 |some _=>L.map fun x=>if x.1=i then(i,s,x.2.2)else x
 |none=>L++[(i,s,c)]
def putC(L:X0)(i c:Nat):Nat:=match Jt L i with|some _=>c|none=>c+1
structure Dsk.Ok(d:Dsk):Prop where
 n:d.old.length≤1024
 pos:0<d.old.length
 size:∀s∈d.old,s.length=256
 keys:(d.last.map (·.1)).Nodup
 born:(d.last.map (·.2.2)).Nodup
 clock:∀x∈d.last,x.2.2<d.clock
 within:∀x∈d.last,x.1<d.old.length∧x.2.1.length=256
 fuse: -1≤d.fuse∧d.fuse≤9223372036854775807
 old_big:True
def Dsk.may(d:Dsk)(i:Int):Int:=if d.dead=true then 7 else if i<0∨(d.old.length:Int)≤i then 10 else 0
def Dsk.sector(d:Dsk)(i:Nat):List UInt8:=(Jt d.last i).getD ((d.old[i]?).getD [])
def Dsk.read(d:Dsk)(i:Int):List UInt8×Int:=if d.may i=0 then(d.sector i.toNat,0)else([],d.may i)
def Dsk.burnt(d:Dsk):Dsk:=if d.fuse=0 then { d with dead:=true }else { d with fuse:=max (d.fuse-1) (-1) }
def Jg(s:List UInt8):List UInt8:=s++qG (256-s.length) 0
def Dsk.put(d:Dsk)(i:Nat)(s:List UInt8):Dsk:={ d with last:=putL d.last i s d.clock,clock:=putC d.last i d.clock }
def Dsk.write(d:Dsk)(i:Int)(s:List UInt8):Dsk×Int:=
 if d.may i≠0 then(d,d.may i)else if 256<s.length then(d,1)else if d.fuse=0 then(d.burnt,7)else(d.burnt.put i.toNat (Jg s),0)
def VI(old:List (List UInt8))(L:X0)(seen:List Nat):List (List UInt8):=
 old.mapIdx fun i o=>match L.find? fun x=>x.1==i&&seen.contains x.2.2 with|some x=>x.2.1|none=>o
def Dsk.synced(d:Dsk):Dsk:={ d with old:=d.old.mapIdx fun i o=>(Jt d.last i).getD o,last:=[] }
def Dsk.sync(d:Dsk):Dsk×Int:=if d.may 0≠0 then(d,d.may 0)else if d.fuse=0 then(d.burnt,7)else(d.burnt.synced,0)
theorem find_congr{α:Type}{p q:α→Bool}:∀{l:List α},(∀x∈l,p x=q x)→l.find? p=l.find? q
 | [],_=>rfl
 |a::l,h=>by
  simp only[List.find?_cons,h a List.mem_cons_self,find_congr fun x hx=>h x (List.mem_cons_of_mem _ hx)]
theorem lastOf_none{L:X0}{i:Nat}(h:Jt L i=none):∀x∈L,x.1≠i:=by
 unfold Jt at h
 rw[Option.map_eq_none_iff,qL]at h
 exact fun x hx e=>h x hx (by simpa using e)
theorem lastOf_some{L:X0}{i:Nat}{s:List UInt8}(h:Jt L i=some s):∃b,(i,s,b)∈L:=by
 unfold Jt at h
 rw[Option.map_eq_some_iff]at h
 obtain⟨x,hx,rfl⟩:=h
 have E:=List.mem_of_find?_eq_some hx
 have h2:=List.find?_some hx
 simp only[beq_iff_eq]at h2
 exact⟨x.2.2,by rw[←h2];exact E⟩
theorem nodup_fst{L:X0}(h:(L.map (·.1)).Nodup){x y:Nat×List UInt8×Nat}(hx:x∈L)(hy:y∈L)(e:x.1=y.1):x=y:=by
 induction L with
 |nil=>cases hx
 |cons a L ih=>
  rw[qm,List.nodup_cons]at h
  rcases List.mem_cons.1 hx with rfl|E<;>rcases List.mem_cons.1 hy with rfl|hy'
  ·rfl
  ·exact absurd (qh.2 ⟨y,hy',e.symm⟩) h.1
  ·exact absurd (qh.2 ⟨x,E,e⟩) h.1
  ·exact ih h.2 E hy'
theorem Vv(i:Nat):∀(L:X0)(k:Nat),(Jt L i=none∧Instr.findNow (.int .i64) (.int .i64 (i:Nat)) (QW L) k=some none)∨
 ∃j x,Jt L i=some x.2.1∧x.1=i∧L[j]?=some x∧Instr.findNow (.int .i64) (.int .i64 (i:Nat)) (QW L) k=some (some (k+j,.string (str x.2.1)))
 | [],k=>.inl ⟨rfl,rfl⟩
 |y::L,k=>by
  by_cases e:y.1=i
  ·right
   refine⟨0,y,?_,e,rfl,?_⟩
   ·unfold Jt;rw[List.find?_cons_of_pos (by simpa using e)];rfl
   ·simp[QW,Instr.findNow,Instr.sameNow,e]
  ·have h1:Jt (y::L) i=Jt L i:=by unfold Jt;rw[List.find?_cons_of_neg (by simpa using e)]
   have h2:Instr.findNow (.int .i64) (.int .i64 (i:Nat)) (QW (y::L)) k=Instr.findNow (.int .i64) (.int .i64 (i:Nat)) (QW L) (k+1):=by
    have U:((i:Int)==(y.1:Int))=false:=by simp;omega
    simp only[QW,qm,Instr.findNow,Instr.sameNow,if_true,U]
   rw[h1,h2]
   rcases Vv i L (k+1)with h|⟨j,x,E,O,I,Y⟩
   ·exact .inl h
   ·exact .inr ⟨j+1,x,E,O,by simpa using I,by rw[Y];congr 3;omega⟩
theorem kt_map:qc.underlying 91=some (.map 3 9):=Tryz.underlying91
theorem look_dsk{get:Nat→Option Blk}{q:Nat}{r:Bool}{L:X0}{c:Nat}(h:get q=some (.kv r (QW L) c))(i:Nat):
 Z6 qc get 91 (.map (some q)) (.int .i64 (i:Nat)) true=some (.tuple #[.string (str ((Jt L i).getD [])),.bool (Jt L i).isSome]):=by
 have hi:qc.underlying 3=some (.int .i64):=qd
 have hs:qc.info? 9=some Tryz.t9:=Zx
 have I:Tryz.t9.zero=some (.string ⟨#[]⟩):=rfl
 unfold Z6 aFind aKV
 rw[kt_map]
 simp only[hs,I,flat,if_true,h,hi,aKey,decide_true]
 rcases Vv i L 0 with⟨E,h2⟩|⟨j,x,E,_,_,h2⟩
 ·rw[E,h2];rfl
 ·rw[E,h2];rfl
theorem upd_dsk{m:Mem}{q:Nat}{L:X0}{c:Nat}(h:m.get q=some (.kv false (QW L) c))(hk:(L.map (·.1)).Nodup)(i:Nat)(s:List UInt8):
 ZW qc m 91 (.map (some q)) (.int .i64 (i:Nat)) (.string (str s))=some (m.set q (some (.kv false (QW (putL L i s c)) (putC L i c)))):=by
 have hi:qc.underlying 3=some (.int .i64):=qd
 unfold ZW aFind
 rw[kt_map]
 simp only[h,flat,if_true,hi,aKey,decide_true]
 rcases Vv i L 0 with⟨Z,h2⟩|⟨j,x,Z,hx,hj,h2⟩
 ·rw[h2]
  simp only[putL,putC,Z]
  simp[QW]
 ·rw[h2]
  simp only[putL,putC,Z,Nat.zero_add]
  refine congrArg (fun l=>some (m.set q (some (Blk.kv false l c)))) ?_
  apply qx
  intro k
  unfold QW
  rw[List.getElem?_modify]
  simp only[List.getElem?_map]
  cases hg:L[k]? with
  |none=>simp
  |some y=>
   by_cases e:j=k
   ·subst e
    rw[hj]at hg;cases hg
    simp[hx]
   ·have:y.1≠i:=fun e2=>by
     obtain⟨O,U⟩:=qt.1 hj
     obtain⟨E,I⟩:=qt.1 hg
     have hp:=List.pairwise_iff_getElem.1 hk
     rcases Nat.lt_trichotomy j k with a2|he|Y
     ·exact hp j k (by simpa using O) (by simpa using E) a2 (by simp[U,I,hx,e2])
     ·exact e he
     ·exact hp k j (by simpa using E) (by simpa using O) Y (by simp[U,I,hx,e2])
    simp[e,this]
theorem clear_dsk{m:Mem}{q:Nat}{es:List MapEntry}{c:Nat}(h:m.get q=some (.kv false es c)):aClear qc m 91 (.map (some q))=some (m.set q (some (.kv false (QW []) c))):=by
 unfold aClear
 rw[kt_map]
 simp only[h]
 rfl
theorem range_dsk{m:Mem}{q:Nat}{r:Bool}{es:List MapEntry}{c:Nat}(h:m.get q=some (.kv r es c)):aRange qc m 91 (.map (some q))=some (.pointer (some ⟨m.size,0,none⟩),m.push (.it false q c [] c)):=by
 unfold aRange
 rw[kt_map]
 simp only[h]
theorem putL_map(L:X0)(i:Nat)(s:List UInt8)(c:Nat):((putL L i s c).map (·.1)=L.map (·.1)∧(putL L i s c).map (·.2.2)=L.map (·.2.2)∧putC L i c=c)∨(Jt L i=none∧putL L i s c=L++[(i,s,c)]∧putC L i c=c+1):=by
 unfold putL putC
 cases h:Jt L i with
 |none=>exact .inr ⟨rfl,rfl,rfl⟩
 |some t=>
  left
  refine⟨?_,?_,rfl⟩<;>simp only[List.map_map]<;>apply List.map_congr_left<;>intro x _<;>simp only[Function.comp]<;>split<;>simp_all
theorem putL_mem{L:X0}{i:Nat}{s:List UInt8}{c:Nat}{x:Nat×List UInt8×Nat}(h:x∈putL L i s c):x∈L∨(x.1=i∧x.2.1=s∧((x.2.2=c∧Jt L i=none)∨∃t,(i,t,x.2.2)∈L)):=by
 unfold putL at h
 split at h
 ·rw[qh]at h
  obtain⟨y,E,rfl⟩:=h
  split
  ·rename_i e
   exact .inr ⟨rfl,rfl,.inr ⟨y.2.1,by rw[←e];exact E⟩⟩
  ·exact .inl E
 ·rename_i hn
  rw[List.mem_append,qM]at h
  rcases h with h|rfl
  ·exact .inl h
  ·exact .inr ⟨rfl,rfl,.inl ⟨rfl,hn⟩⟩
theorem Dsk.Ok.burnt{d:Dsk}(h:d.Ok):d.burnt.Ok:=by
 unfold Dsk.burnt
 split
 ·exact⟨h.n,h.pos,h.size,h.keys,h.born,h.clock,h.within,h.fuse,trivial⟩
 ·have E:=h.fuse
  exact⟨h.n,h.pos,h.size,h.keys,h.born,h.clock,h.within,by simp only;omega,trivial⟩
theorem Qp(d:Dsk):d.burnt.old=d.old:=by unfold Dsk.burnt;split<;>rfl
theorem Kw(d:Dsk):d.burnt.last=d.last:=by unfold Dsk.burnt;split<;>rfl
theorem burnt_clock(d:Dsk):d.burnt.clock=d.clock:=by unfold Dsk.burnt;split<;>rfl
theorem Dsk.Ok.put{d:Dsk}(h:d.Ok){i:Nat}(hi:i<d.old.length){s:List UInt8}(hs:s.length=256):(d.put i s).Ok:=by
 unfold Dsk.put
 refine⟨h.n,h.pos,h.size,?_,?_,fun x hx=>?_,fun x hx=>?_,h.fuse,trivial⟩
 ·rcases putL_map d.last i s d.clock with⟨E,_,_⟩|⟨E,h2,_⟩
  ·simp only[E];exact h.keys
  ·simp only[h2,List.map_append,qm,List.map_nil]
   rw[List.nodup_append]
   refine⟨h.keys,by simp,fun a ha b hb=>?_⟩
   rw[qM]at hb
   obtain⟨x,hx,rfl⟩:=qh.1 ha
   subst hb
   exact lastOf_none E x hx
 ·rcases putL_map d.last i s d.clock with⟨_,E,_⟩|⟨E,h2,_⟩
  ·simp only[E];exact h.born
  ·simp only[h2,List.map_append,qm,List.map_nil]
   rw[List.nodup_append]
   refine⟨h.born,by simp,fun a ha b hb=>?_⟩
   rw[qM]at hb
   obtain⟨x,hx,rfl⟩:=qh.1 ha
   subst hb
   have:=h.clock x hx
   omega
 ·simp only at hx ⊢
  rcases putL_map d.last i s d.clock with⟨_,_,E⟩|⟨E,_,h2⟩
  ·rw[E]
   rcases putL_mem hx with hx|⟨_,_,⟨U,O⟩|⟨t,I⟩⟩
   ·exact h.clock x hx
   ·unfold putC at E;rw[O]at E;simp at E
   ·exact h.clock (i,t,x.2.2) I
  ·rw[h2]
   rcases putL_mem hx with hx|⟨_,_,⟨U,O⟩|⟨t,I⟩⟩
   ·have:=h.clock x hx;omega
   ·omega
   ·have:=h.clock (i,t,x.2.2) I;simp only at this;omega
 ·simp only at hx ⊢
  rcases putL_mem hx with hx|⟨E,h2,_⟩
  ·exact h.within x hx
  ·rw[E,h2];exact⟨hi,hs⟩
theorem Dsk.Ok.sector{d:Dsk}(h:d.Ok){i:Nat}(hi:i<d.old.length):(d.sector i).length=256:=by
 unfold Dsk.sector
 cases hl:Jt d.last i with
 |some s=>
  obtain⟨b,hb⟩:=lastOf_some hl
  exact(h.within _ hb).2
 |none=>
  rw[qu hi]
  exact h.size _ (List.getElem_mem hi)
theorem filled_len{s:List UInt8}(h:s.length≤256):(Jg s).length=256:=by unfold Jg;simp;omega
theorem Dsk.Ok.synced{d:Dsk}(h:d.Ok):d.synced.Ok:=by
 unfold Dsk.synced
 refine⟨by simpa using h.n,by simpa using h.pos,fun s hs=>?_,by simp,by simp,fun x hx=>by simp at hx,fun x hx=>by simp at hx,h.fuse,trivial⟩
 simp only at hs
 rw[List.mem_mapIdx]at hs
 obtain⟨i,hi,rfl⟩:=hs
 have:=h.sector hi
 unfold Dsk.sector at this
 rw[qu hi]at this
 exact this
theorem syncV_nil(old:List (List UInt8))(L:X0):VI old L []=old:=by
 unfold VI
 have:∀i:Nat,L.find? (fun x=>x.1==i&&([]:List Nat).contains x.2.2)=none:=fun i=>by rw[qL];simp
 simp only[this]
 apply qx
 intro i
 simp
theorem Vz(old:List (List UInt8))(L:X0)(seen:List Nat):(VI old L seen).length=old.length:=by unfold VI;simp
theorem syncV_step{old:List (List UInt8)}{L:X0}{seen:List Nat}(hk:(L.map (·.1)).Nodup){x:Nat×List UInt8×Nat}(hx:x∈L):(VI old L seen).set x.1 x.2.1=VI old L (seen++[x.2.2])∨∃y∈L,y≠x∧y.2.2=x.2.2:=by
 by_cases hd:∃y∈L,y≠x∧y.2.2=x.2.2
 ·exact .inr hd
 ·left
  apply qx
  intro i
  rw[List.getElem?_set]
  unfold VI
  simp only[List.length_mapIdx,List.getElem?_mapIdx]
  cases ho:old[i]? with
  |none=>
   have:¬i<old.length:=by have:=List.getElem?_eq_none_iff.1 ho;omega
   by_cases e:x.1=i
   ·simp[e,this]
   ·simp[e]
  |some o=>
   have I:i<old.length:=(qt.1 ho).1
   by_cases e:x.1=i
   ·have Y:L.find? (fun y=>y.1==i&&(seen++[x.2.2]).contains y.2.2)=some x:=by
     have O:L.find? (fun y=>y.1==i&&(seen++[x.2.2]).contains y.2.2)≠none:=by
      rw[Ne,qL]
      intro h
      exact h x hx (by simp[e])
     obtain⟨y,E⟩:=Option.ne_none_iff_exists'.1 O
     have U:=List.mem_of_find?_eq_some E
     have h2:=List.find?_some E
     simp only[Bool.and_eq_true,beq_iff_eq]at h2
     rw[E,nodup_fst hk U hx (by rw[h2.1,e])]
    rw[if_pos e,if_pos (by rw[e];exact I),qE,Y]
   ·simp only[e,if_false,qE]
    congr 1
    have:L.find? (fun y=>y.1==i&&seen.contains y.2.2)=L.find? (fun y=>y.1==i&&(seen++[x.2.2]).contains y.2.2):=by
     apply find_congr
     intro y E
     by_cases e2:y.1=i
     ·have:y.2.2≠x.2.2:=fun h=>hd ⟨y,E,fun h'=>e (by rw[←h'];exact e2),h⟩
      simp[this]
     ·have:(y.1==i)=false:=by simpa using e2
      rw[this];rfl
    rw[this]
theorem syncV_all{old:List (List UInt8)}{L:X0}{seen:List Nat}(h:ZI (QW L) seen=[]):VI old L seen=old.mapIdx fun i o=>(Jt L i).getD o:=by
 have E:∀x∈L,seen.contains x.2.2=true:=fun x hx=>by
  unfold ZI at h
  rw[List.filter_eq_nil_iff]at h
  have:=h ⟨.int .i64 (x.1:Nat),.string (str x.2.1),x.2.2⟩ (qh.2 ⟨x,hx,rfl⟩)
  simpa using this
 unfold VI
 apply qx
 intro i
 simp only[List.getElem?_mapIdx]
 cases ho:old[i]? with
 |none=>rfl
 |some o=>
  simp only[qE]
  congr 1
  have:L.find? (fun y=>y.1==i&&seen.contains y.2.2)=L.find? (fun y=>y.1==i):=by
   apply find_congr
   intro y I
   rw[E y I,Bool.and_true]
  rw[this]
  unfold Jt
  cases L.find? (fun y=>y.1==i)<;>rfl
theorem aLeft_mem{L:X0}{seen:List Nat}{e:MapEntry}(h:e∈ZI (QW L) seen):∃x∈L,e=⟨.int .i64 (x.1:Nat),.string (str x.2.1),x.2.2⟩∧seen.contains x.2.2=false:=by
 unfold ZI at h
 rw[List.mem_filter]at h
 obtain⟨E,h2⟩:=h
 obtain⟨x,hx,rfl⟩:=qh.1 E
 exact⟨x,hx,rfl,by simpa using h2⟩
theorem aLeft_less{L:X0}{seen:List Nat}{e:MapEntry}(h:e∈ZI (QW L) seen):(ZI (QW L) (seen++[e.born])).length<(ZI (QW L) seen).length:=by
 have:ZI (QW L) (seen++[e.born])=(ZI (QW L) seen).filter fun x=> !(x.born==e.born):=by
  unfold ZI
  rw[List.filter_filter]
  apply List.filter_congr
  intro x _
  cases h1:seen.contains x.born<;>cases h2:(x.born==e.born)<;>simp_all
 rw[this]
 exact List.length_filter_lt_length_iff_exists.2 ⟨e,h,by simp⟩
theorem ents_find{L:X0}(hb:(L.map (·.2.2)).Nodup){x:Nat×List UInt8×Nat}(hx:x∈L):(QW L).find? (fun e=>e.born==x.2.2)=some ⟨.int .i64 (x.1:Nat),.string (str x.2.1),x.2.2⟩:=by
 induction L with
 |nil=>cases hx
 |cons a L ih=>
  rw[qm,List.nodup_cons]at hb
  unfold QW
  rw[qm]
  rcases List.mem_cons.1 hx with rfl|E
  ·rw[List.find?_cons_of_pos (by simp)]
  ·have:a.2.2≠x.2.2:=fun e=>hb.1 (qh.2 ⟨x,E,e.symm⟩)
   rw[List.find?_cons_of_neg (by simpa using this)]
   exact ih hb.2 E
theorem Jc(p o:Nat):aBin qc .eql 26 true (.pointer (some ⟨p,o,none⟩)) (.pointer none)=some (.bool false):=by kernel_rfl
theorem Jb(p o:Nat):aBin qc .neq 26 true (.pointer (some ⟨p,o,none⟩)) (.pointer none)=some (.bool true):=by kernel_rfl
theorem J9:aBin qc .eql 26 true (.pointer none) (.pointer none)=some (.bool true):=by kernel_rfl
theorem J8:aBin qc .neq 26 true (.pointer none) (.pointer none)=some (.bool false):=by kernel_rfl
theorem pr_neq(p o:Nat):aBin qc .neq 69 true (.pointer (some ⟨p,o,none⟩)) (.pointer none)=some (.bool true):=by kernel_rfl
theorem pr_neq0:aBin qc .neq 69 true (.pointer none) (.pointer none)=some (.bool false):=by kernel_rfl
theorem px_neq(p o:Nat):aBin qc .neq 71 true (.pointer (some ⟨p,o,none⟩)) (.pointer none)=some (.bool true):=by kernel_rfl
theorem px_neq0:aBin qc .neq 71 true (.pointer none) (.pointer none)=some (.bool false):=by kernel_rfl
theorem pp_eql(p o:Nat):aBin qc .eql 27 true (.pointer (some ⟨p,o,none⟩)) (.pointer none)=some (.bool false):=by kernel_rfl
theorem pp_neq(p o:Nat):aBin qc .neq 27 true (.pointer (some ⟨p,o,none⟩)) (.pointer none)=some (.bool true):=by kernel_rfl
theorem pp_eql0:aBin qc .eql 27 true (.pointer none) (.pointer none)=some (.bool true):=by kernel_rfl
def Xx:=And.intro (And.intro @pr_neq (And.intro @pr_neq0 @px_neq)) (And.intro (And.intro @px_neq0 @pp_eql) (And.intro @pp_neq @pp_eql0))
theorem Qb{M:Mem}{b:Nat}{x:Blk}(h:M.get b=some x):b<M.size:=Mem.get_lt h
def Only(l:List Nat)(M M':Mem):Prop:=∀b x,b∉l→M.get b=some x→M'.get b=some x
theorem Only.refl(l:List Nat)(M:Mem):Only l M M:=fun _ _ _ h=>h
theorem Only.trans{l:List Nat}{A B C:Mem}(h:Only l A B)(k:Only l B C):Only l A C:=fun b x hb hx=>k b x hb (h b x hb hx)
theorem Only.set{l:List Nat}{M:Mem}{b:Nat}(hb:b∈l)(o:Option Blk):Only l M (M.set b o):=fun c x hc hx=>by
 rw[Mem.get_set_ne (fun e=>hc (by rw[←e];exact hb))];exact hx
theorem Only.push(l:List Nat)(M:Mem)(x:Blk):Only l M (M.push x):=fun b y _ hy=>by rw[Mem.get_push_old (Qb hy)];exact hy
theorem Only.mono{l l':List Nat}{A B:Mem}(h:Only l A B)(hl:∀b∈l,b∈l'):Only l' A B:=fun b x hb hx=>h b x (fun e=>hb (hl b e)) hx
end Go.Proofs.YthohbneadomgdaaGreatDoor
namespace Go.Proofs.YthohbneadomgdaaGreatDoor.Abs
open Go
theorem Xn{x:Int}(h0: -9223372036854775808≤x)(h1:x≤9223372036854775807):IntKind.i64.wrap x=x:=by
 unfold IntKind.wrap;simp[IntKind.bits,IntKind.signed];omega
theorem vMax_int(a b:Int):vMin false [.int .i64 a,.int .i64 b]=some (.int .i64 (max a b)):=by
 simp only[vMin,evMin,aMin2]
 by_cases h:b>a
 ·simp[h];omega
 ·simp[h];omega
theorem vMin_int(a b:Int):vMin true [.int .i64 a,.int .i64 b]=some (.int .i64 (min a b)):=by
 simp only[vMin,evMin,aMin2]
 by_cases h:b<a
 ·simp[h];omega
 ·simp[h];omega
end Go.Proofs.YthohbneadomgdaaGreatDoor.Abs
namespace Go.Proofs.YthohbneadomgdaaGreatDoor.Abs
open Go Go.RowKit
def zA:=And.intro (And.intro @zZ @zDk) (And.intro @Jc (And.intro @Jb @Xx))
section
variable {n k : Nat} {f : AL} {m : Mem} {Q : Exit → AL → Mem → Prop} {B : Prop}
theorem CF{c:Operand}{x y:Code}(h:@CW qc n k ⟨y⟩ ⟨Q⟩ f m)(hc:AL.look f c=some (.bool false):=by rfl):@CW Tryz.prog n k ⟨.cond c x y⟩ ⟨Q⟩ f m:=Qd false hc (fun e=>by cases e) fun _=>h
theorem CT{c:Operand}{x y:Code}(h:@CW qc n k ⟨x⟩ ⟨Q⟩ f m)(hc:AL.look f c=some (.bool true):=by rfl):@CW Tryz.prog n k ⟨.cond c x y⟩ ⟨Q⟩ f m:=Qd true hc (fun _=>h) fun e=>by cases e
theorem CC{c:Operand}{x y:Code}(t:Bool)(ht:t=true→@CW qc n k ⟨x⟩ ⟨Q⟩ f m)(hf:t=false→@CW qc n k ⟨y⟩ ⟨Q⟩ f m)(hc:AL.look f c=some (.bool t):=by rfl):@CW Tryz.prog n k ⟨.cond c x y⟩ ⟨Q⟩ f m:=Qd t hc ht hf
theorem K5{g:FuncId}{fn:Func}{c:Code}{xs:List Value}{R:Value→Mem→Prop}{m:Mem}(hf:qc.funcs[g]?=some fn){rs:Array ResultVar}(hr:fn.results=rs){n:Nat}(hn:fn.ntmps=n)
 (h:Within m→(∀x∈xs,Cl m.Has x)→∀k,@CW qc n k ⟨c⟩ ⟨mEnd qc rs.toList R⟩ (alOf 0 xs) m) (hb:fn.body=some c:=by rfl) (hx:xs.length≤n:=by simp):Spec qc g xs m R:=Spec.walkM hf hb rs hr n hn hx h
theorem WM{g:FuncId}{fn:Func}{c:Code}{xs:List Value}{R:Value→Mem→Prop}{m:Mem}(hf:qc.funcs[g]?=some fn){rs:Array ResultVar}(hr:fn.results=rs){n:Nat}(hn:fn.ntmps=n)
 (h:∀k,@CW qc n k ⟨c⟩ ⟨mEnd qc rs.toList R⟩ (alOf 0 xs) m) (hb:fn.body=some c:=by rfl) (hx:xs.length≤n:=by simp):Spec qc g xs m R:=Spec.walkM hf hb rs hr n hn hx fun _ _=>h
theorem S0{A:Prop}(h:B)(e:A=B:=by simp only[zA,reduceIte,yQ,yW,yX,yZ,yJ,yK,yV,yY];rfl):A:=e.mpr h
theorem R0{id:Nat}{ops:Array Oper}(h:B)(e:@sOpsB qc n ops.toList ⟨Q .normal⟩ ops.toList f m=B:=by simp only[zA,reduceIte,yQ,yW,yX,yZ,yJ,yK,yV,yY];rfl):@CW Tryz.prog n k ⟨.region id ops false⟩ ⟨Q⟩ f m:=J1 (e.mpr h)
theorem D0{id:Nat}{ops:Array Oper}(q:Nat)(h:B)(hq:Ql ops q=true:=by kernel_rfl)(hs:Nat.ble q ops.size=true:=by kernel_rfl)(e:@sHeadB Tryz.prog n ops.toList m ⟨fun f' M=>@sOpsB Tryz.prog n ops.toList ⟨Q .normal⟩ (ops.toList.drop q) f' M⟩ (ops.toList.take q) false f m=B:=by simp only[zA,reduceIte,yQ,yW,yX,yZ,yJ,yK,yV,yY];rfl):@CW Tryz.prog n k ⟨.region id ops true⟩ ⟨Q⟩ f m:=QG hmix q hq hs (e.mpr h)
theorem T0(h:B)(e:Q .ret f m=B:=by simp only[zA,reduceIte,yQ,yW,yX,yZ,yJ,yK,yV,yY,mEnd,sAnswer,sAnswer.sRes];rfl):@CW Tryz.prog n k ⟨.ret⟩ ⟨Q⟩ f m:=QC (e.mpr h)
theorem K0{g:FuncId}{xs:List Value}{v:Value}{G:Value→Mem→Prop}(s:Spec qc g xs m fun u M=>u=v∧M=m)(h:B)(he:Qg qc g=true:=by kernel_rfl)(e:G v m=B:=by simp only[zA,reduceIte,yQ,yW,yX,yZ,yJ,yK,yV,yY];rfl):Qg Tryz.prog g=true∧∃R,Spec Tryz.prog g xs m R∧@Later ⟨∀u M,R u M→G u M⟩:=⟨he,_,s,fun u M ⟨hu,hM⟩=>by subst hu;subst hM;exact e.mpr h⟩
theorem S1{A:Prop}{F0:Prop}(g0:F0)(h:B)(e:F0→A=B:=by intro g0;simp only[zA,g0,reduceIte,yQ,yW,yX,yZ,yJ,yK,yV,yY];rfl):A:=(e g0).mpr h
theorem R1{id:Nat}{ops:Array Oper}{F0:Prop}(g0:F0)(h:B)(e:F0→@sOpsB qc n ops.toList ⟨Q .normal⟩ ops.toList f m=B:=by intro g0;simp only[zA,g0,reduceIte,yQ,yW,yX,yZ,yJ,yK,yV,yY];rfl):@CW Tryz.prog n k ⟨.region id ops false⟩ ⟨Q⟩ f m:=J1 ((e g0).mpr h)
theorem D1{id:Nat}{ops:Array Oper}(q:Nat){F0:Prop}(g0:F0)(h:B)(hq:Ql ops q=true:=by kernel_rfl)(hs:Nat.ble q ops.size=true:=by kernel_rfl)(e:F0→@sHeadB Tryz.prog n ops.toList m ⟨fun f' M=>@sOpsB Tryz.prog n ops.toList ⟨Q .normal⟩ (ops.toList.drop q) f' M⟩ (ops.toList.take q) false f m=B:=by intro g0;simp only[zA,g0,reduceIte,yQ,yW,yX,yZ,yJ,yK,yV,yY];rfl):@CW Tryz.prog n k ⟨.region id ops true⟩ ⟨Q⟩ f m:=QG hmix q hq hs ((e g0).mpr h)
theorem T1{F0:Prop}(g0:F0)(h:B)(e:F0→Q .ret f m=B:=by intro g0;simp only[zA,g0,reduceIte,yQ,yW,yX,yZ,yJ,yK,yV,yY,mEnd,sAnswer,sAnswer.sRes];rfl):@CW Tryz.prog n k ⟨.ret⟩ ⟨Q⟩ f m:=QC ((e g0).mpr h)
theorem K1{g:FuncId}{xs:List Value}{v:Value}{G:Value→Mem→Prop}{F0:Prop}(g0:F0)(s:Spec qc g xs m fun u M=>u=v∧M=m)(h:B)(he:Qg qc g=true:=by kernel_rfl)(e:F0→G v m=B:=by intro g0;simp only[zA,g0,reduceIte,yQ,yW,yX,yZ,yJ,yK,yV,yY];rfl):Qg Tryz.prog g=true∧∃R,Spec Tryz.prog g xs m R∧@Later ⟨∀u M,R u M→G u M⟩:=⟨he,_,s,fun u M ⟨hu,hM⟩=>by subst hu;subst hM;exact(e g0).mpr h⟩
theorem S2{A:Prop}{F0 F1:Prop}(g0:F0)(g1:F1)(h:B)(e:F0→F1→A=B:=by intro g0 g1;simp only[zA,g0,g1,reduceIte,yQ,yW,yX,yZ,yJ,yK,yV,yY];rfl):A:=(e g0 g1).mpr h
theorem R2{id:Nat}{ops:Array Oper}{F0 F1:Prop}(g0:F0)(g1:F1)(h:B)(e:F0→F1→@sOpsB qc n ops.toList ⟨Q .normal⟩ ops.toList f m=B:=by intro g0 g1;simp only[zA,g0,g1,reduceIte,yQ,yW,yX,yZ,yJ,yK,yV,yY];rfl):@CW Tryz.prog n k ⟨.region id ops false⟩ ⟨Q⟩ f m:=J1 ((e g0 g1).mpr h)
theorem D2{id:Nat}{ops:Array Oper}(q:Nat){F0 F1:Prop}(g0:F0)(g1:F1)(h:B)(hq:Ql ops q=true:=by kernel_rfl)(hs:Nat.ble q ops.size=true:=by kernel_rfl)(e:F0→F1→@sHeadB Tryz.prog n ops.toList m ⟨fun f' M=>@sOpsB Tryz.prog n ops.toList ⟨Q .normal⟩ (ops.toList.drop q) f' M⟩ (ops.toList.take q) false f m=B:=by intro g0 g1;simp only[zA,g0,g1,reduceIte,yQ,yW,yX,yZ,yJ,yK,yV,yY];rfl):@CW Tryz.prog n k ⟨.region id ops true⟩ ⟨Q⟩ f m:=QG hmix q hq hs ((e g0 g1).mpr h)
theorem T2{F0 F1:Prop}(g0:F0)(g1:F1)(h:B)(e:F0→F1→Q .ret f m=B:=by intro g0 g1;simp only[zA,g0,g1,reduceIte,yQ,yW,yX,yZ,yJ,yK,yV,yY,mEnd,sAnswer,sAnswer.sRes];rfl):@CW Tryz.prog n k ⟨.ret⟩ ⟨Q⟩ f m:=QC ((e g0 g1).mpr h)
theorem K2{g:FuncId}{xs:List Value}{v:Value}{G:Value→Mem→Prop}{F0 F1:Prop}(g0:F0)(g1:F1)(s:Spec qc g xs m fun u M=>u=v∧M=m)(h:B)(he:Qg qc g=true:=by kernel_rfl)(e:F0→F1→G v m=B:=by intro g0 g1;simp only[zA,g0,g1,reduceIte,yQ,yW,yX,yZ,yJ,yK,yV,yY];rfl):Qg Tryz.prog g=true∧∃R,Spec Tryz.prog g xs m R∧@Later ⟨∀u M,R u M→G u M⟩:=⟨he,_,s,fun u M ⟨hu,hM⟩=>by subst hu;subst hM;exact(e g0 g1).mpr h⟩
theorem S3{A:Prop}{F0 F1 F2:Prop}(g0:F0)(g1:F1)(g2:F2)(h:B)(e:F0→F1→F2→A=B:=by intro g0 g1 g2;simp only[zA,g0,g1,g2,reduceIte,yQ,yW,yX,yZ,yJ,yK,yV,yY];rfl):A:=(e g0 g1 g2).mpr h
theorem R3{id:Nat}{ops:Array Oper}{F0 F1 F2:Prop}(g0:F0)(g1:F1)(g2:F2)(h:B)(e:F0→F1→F2→@sOpsB qc n ops.toList ⟨Q .normal⟩ ops.toList f m=B:=by intro g0 g1 g2;simp only[zA,g0,g1,g2,reduceIte,yQ,yW,yX,yZ,yJ,yK,yV,yY];rfl):@CW Tryz.prog n k ⟨.region id ops false⟩ ⟨Q⟩ f m:=J1 ((e g0 g1 g2).mpr h)
theorem D3{id:Nat}{ops:Array Oper}(q:Nat){F0 F1 F2:Prop}(g0:F0)(g1:F1)(g2:F2)(h:B)(hq:Ql ops q=true:=by kernel_rfl)(hs:Nat.ble q ops.size=true:=by kernel_rfl)(e:F0→F1→F2→@sHeadB Tryz.prog n ops.toList m ⟨fun f' M=>@sOpsB Tryz.prog n ops.toList ⟨Q .normal⟩ (ops.toList.drop q) f' M⟩ (ops.toList.take q) false f m=B:=by intro g0 g1 g2;simp only[zA,g0,g1,g2,reduceIte,yQ,yW,yX,yZ,yJ,yK,yV,yY];rfl):@CW Tryz.prog n k ⟨.region id ops true⟩ ⟨Q⟩ f m:=QG hmix q hq hs ((e g0 g1 g2).mpr h)
theorem T3{F0 F1 F2:Prop}(g0:F0)(g1:F1)(g2:F2)(h:B)(e:F0→F1→F2→Q .ret f m=B:=by intro g0 g1 g2;simp only[zA,g0,g1,g2,reduceIte,yQ,yW,yX,yZ,yJ,yK,yV,yY,mEnd,sAnswer,sAnswer.sRes];rfl):@CW Tryz.prog n k ⟨.ret⟩ ⟨Q⟩ f m:=QC ((e g0 g1 g2).mpr h)
theorem K3{g:FuncId}{xs:List Value}{v:Value}{G:Value→Mem→Prop}{F0 F1 F2:Prop}(g0:F0)(g1:F1)(g2:F2)(s:Spec qc g xs m fun u M=>u=v∧M=m)(h:B)(he:Qg qc g=true:=by kernel_rfl)(e:F0→F1→F2→G v m=B:=by intro g0 g1 g2;simp only[zA,g0,g1,g2,reduceIte,yQ,yW,yX,yZ,yJ,yK,yV,yY];rfl):Qg Tryz.prog g=true∧∃R,Spec Tryz.prog g xs m R∧@Later ⟨∀u M,R u M→G u M⟩:=⟨he,_,s,fun u M ⟨hu,hM⟩=>by subst hu;subst hM;exact(e g0 g1 g2).mpr h⟩
theorem S4{A:Prop}{F0 F1 F2 F3:Prop}(g0:F0)(g1:F1)(g2:F2)(g3:F3)(h:B)(e:F0→F1→F2→F3→A=B:=by intro g0 g1 g2 g3;simp only[zA,g0,g1,g2,g3,reduceIte,yQ,yW,yX,yZ,yJ,yK,yV,yY];rfl):A:=(e g0 g1 g2 g3).mpr h
theorem R4{id:Nat}{ops:Array Oper}{F0 F1 F2 F3:Prop}(g0:F0)(g1:F1)(g2:F2)(g3:F3)(h:B)(e:F0→F1→F2→F3→@sOpsB qc n ops.toList ⟨Q .normal⟩ ops.toList f m=B:=by intro g0 g1 g2 g3;simp only[zA,g0,g1,g2,g3,reduceIte,yQ,yW,yX,yZ,yJ,yK,yV,yY];rfl):@CW Tryz.prog n k ⟨.region id ops false⟩ ⟨Q⟩ f m:=J1 ((e g0 g1 g2 g3).mpr h)
theorem D4{id:Nat}{ops:Array Oper}(q:Nat){F0 F1 F2 F3:Prop}(g0:F0)(g1:F1)(g2:F2)(g3:F3)(h:B)(hq:Ql ops q=true:=by kernel_rfl)(hs:Nat.ble q ops.size=true:=by kernel_rfl)(e:F0→F1→F2→F3→@sHeadB Tryz.prog n ops.toList m ⟨fun f' M=>@sOpsB Tryz.prog n ops.toList ⟨Q .normal⟩ (ops.toList.drop q) f' M⟩ (ops.toList.take q) false f m=B:=by intro g0 g1 g2 g3;simp only[zA,g0,g1,g2,g3,reduceIte,yQ,yW,yX,yZ,yJ,yK,yV,yY];rfl):@CW Tryz.prog n k ⟨.region id ops true⟩ ⟨Q⟩ f m:=QG hmix q hq hs ((e g0 g1 g2 g3).mpr h)
theorem T4{F0 F1 F2 F3:Prop}(g0:F0)(g1:F1)(g2:F2)(g3:F3)(h:B)(e:F0→F1→F2→F3→Q .ret f m=B:=by intro g0 g1 g2 g3;simp only[zA,g0,g1,g2,g3,reduceIte,yQ,yW,yX,yZ,yJ,yK,yV,yY,mEnd,sAnswer,sAnswer.sRes];rfl):@CW Tryz.prog n k ⟨.ret⟩ ⟨Q⟩ f m:=QC ((e g0 g1 g2 g3).mpr h)
theorem K4{g:FuncId}{xs:List Value}{v:Value}{G:Value→Mem→Prop}{F0 F1 F2 F3:Prop}(g0:F0)(g1:F1)(g2:F2)(g3:F3)(s:Spec qc g xs m fun u M=>u=v∧M=m)(h:B)(he:Qg qc g=true:=by kernel_rfl)(e:F0→F1→F2→F3→G v m=B:=by intro g0 g1 g2 g3;simp only[zA,g0,g1,g2,g3,reduceIte,yQ,yW,yX,yZ,yJ,yK,yV,yY];rfl):Qg Tryz.prog g=true∧∃R,Spec Tryz.prog g xs m R∧@Later ⟨∀u M,R u M→G u M⟩:=⟨he,_,s,fun u M ⟨hu,hM⟩=>by subst hu;subst hM;exact(e g0 g1 g2 g3).mpr h⟩
theorem S5{A:Prop}{F0 F1 F2 F3 F4:Prop}(g0:F0)(g1:F1)(g2:F2)(g3:F3)(g4:F4)(h:B)(e:F0→F1→F2→F3→F4→A=B:=by intro g0 g1 g2 g3 g4;simp only[zA,g0,g1,g2,g3,g4,reduceIte,yQ,yW,yX,yZ,yJ,yK,yV,yY];rfl):A:=(e g0 g1 g2 g3 g4).mpr h
theorem R5{id:Nat}{ops:Array Oper}{F0 F1 F2 F3 F4:Prop}(g0:F0)(g1:F1)(g2:F2)(g3:F3)(g4:F4)(h:B)(e:F0→F1→F2→F3→F4→@sOpsB qc n ops.toList ⟨Q .normal⟩ ops.toList f m=B:=by intro g0 g1 g2 g3 g4;simp only[zA,g0,g1,g2,g3,g4,reduceIte,yQ,yW,yX,yZ,yJ,yK,yV,yY];rfl):@CW Tryz.prog n k ⟨.region id ops false⟩ ⟨Q⟩ f m:=J1 ((e g0 g1 g2 g3 g4).mpr h)
theorem D5{id:Nat}{ops:Array Oper}(q:Nat){F0 F1 F2 F3 F4:Prop}(g0:F0)(g1:F1)(g2:F2)(g3:F3)(g4:F4)(h:B)(hq:Ql ops q=true:=by kernel_rfl)(hs:Nat.ble q ops.size=true:=by kernel_rfl)(e:F0→F1→F2→F3→F4→@sHeadB Tryz.prog n ops.toList m ⟨fun f' M=>@sOpsB Tryz.prog n ops.toList ⟨Q .normal⟩ (ops.toList.drop q) f' M⟩ (ops.toList.take q) false f m=B:=by intro g0 g1 g2 g3 g4;simp only[zA,g0,g1,g2,g3,g4,reduceIte,yQ,yW,yX,yZ,yJ,yK,yV,yY];rfl):@CW Tryz.prog n k ⟨.region id ops true⟩ ⟨Q⟩ f m:=QG hmix q hq hs ((e g0 g1 g2 g3 g4).mpr h)
theorem T5{F0 F1 F2 F3 F4:Prop}(g0:F0)(g1:F1)(g2:F2)(g3:F3)(g4:F4)(h:B)(e:F0→F1→F2→F3→F4→Q .ret f m=B:=by intro g0 g1 g2 g3 g4;simp only[zA,g0,g1,g2,g3,g4,reduceIte,yQ,yW,yX,yZ,yJ,yK,yV,yY,mEnd,sAnswer,sAnswer.sRes];rfl):@CW Tryz.prog n k ⟨.ret⟩ ⟨Q⟩ f m:=QC ((e g0 g1 g2 g3 g4).mpr h)
theorem S6{A:Prop}{F0 F1 F2 F3 F4 F5:Prop}(g0:F0)(g1:F1)(g2:F2)(g3:F3)(g4:F4)(g5:F5)(h:B)(e:F0→F1→F2→F3→F4→F5→A=B:=by intro g0 g1 g2 g3 g4 g5;simp only[zA,g0,g1,g2,g3,g4,g5,reduceIte,yQ,yW,yX,yZ,yJ,yK,yV,yY];rfl):A:=(e g0 g1 g2 g3 g4 g5).mpr h
theorem R6{id:Nat}{ops:Array Oper}{F0 F1 F2 F3 F4 F5:Prop}(g0:F0)(g1:F1)(g2:F2)(g3:F3)(g4:F4)(g5:F5)(h:B)(e:F0→F1→F2→F3→F4→F5→@sOpsB qc n ops.toList ⟨Q .normal⟩ ops.toList f m=B:=by intro g0 g1 g2 g3 g4 g5;simp only[zA,g0,g1,g2,g3,g4,g5,reduceIte,yQ,yW,yX,yZ,yJ,yK,yV,yY];rfl):@CW Tryz.prog n k ⟨.region id ops false⟩ ⟨Q⟩ f m:=J1 ((e g0 g1 g2 g3 g4 g5).mpr h)
theorem D6{id:Nat}{ops:Array Oper}(q:Nat){F0 F1 F2 F3 F4 F5:Prop}(g0:F0)(g1:F1)(g2:F2)(g3:F3)(g4:F4)(g5:F5)(h:B)(hq:Ql ops q=true:=by kernel_rfl)(hs:Nat.ble q ops.size=true:=by kernel_rfl)(e:F0→F1→F2→F3→F4→F5→@sHeadB Tryz.prog n ops.toList m ⟨fun f' M=>@sOpsB Tryz.prog n ops.toList ⟨Q .normal⟩ (ops.toList.drop q) f' M⟩ (ops.toList.take q) false f m=B:=by intro g0 g1 g2 g3 g4 g5;simp only[zA,g0,g1,g2,g3,g4,g5,reduceIte,yQ,yW,yX,yZ,yJ,yK,yV,yY];rfl):@CW Tryz.prog n k ⟨.region id ops true⟩ ⟨Q⟩ f m:=QG hmix q hq hs ((e g0 g1 g2 g3 g4 g5).mpr h)
theorem S7{A:Prop}{F0 F1 F2 F3 F4 F5 F6:Prop}(g0:F0)(g1:F1)(g2:F2)(g3:F3)(g4:F4)(g5:F5)(g6:F6)(h:B)(e:F0→F1→F2→F3→F4→F5→F6→A=B:=by intro g0 g1 g2 g3 g4 g5 g6;simp only[zA,g0,g1,g2,g3,g4,g5,g6,reduceIte,yQ,yW,yX,yZ,yJ,yK,yV,yY];rfl):A:=(e g0 g1 g2 g3 g4 g5 g6).mpr h
theorem R7{id:Nat}{ops:Array Oper}{F0 F1 F2 F3 F4 F5 F6:Prop}(g0:F0)(g1:F1)(g2:F2)(g3:F3)(g4:F4)(g5:F5)(g6:F6)(h:B)(e:F0→F1→F2→F3→F4→F5→F6→@sOpsB qc n ops.toList ⟨Q .normal⟩ ops.toList f m=B:=by intro g0 g1 g2 g3 g4 g5 g6;simp only[zA,g0,g1,g2,g3,g4,g5,g6,reduceIte,yQ,yW,yX,yZ,yJ,yK,yV,yY];rfl):@CW Tryz.prog n k ⟨.region id ops false⟩ ⟨Q⟩ f m:=J1 ((e g0 g1 g2 g3 g4 g5 g6).mpr h)
theorem D7{id:Nat}{ops:Array Oper}(q:Nat){F0 F1 F2 F3 F4 F5 F6:Prop}(g0:F0)(g1:F1)(g2:F2)(g3:F3)(g4:F4)(g5:F5)(g6:F6)(h:B)(hq:Ql ops q=true:=by kernel_rfl)(hs:Nat.ble q ops.size=true:=by kernel_rfl)(e:F0→F1→F2→F3→F4→F5→F6→@sHeadB Tryz.prog n ops.toList m ⟨fun f' M=>@sOpsB Tryz.prog n ops.toList ⟨Q .normal⟩ (ops.toList.drop q) f' M⟩ (ops.toList.take q) false f m=B:=by intro g0 g1 g2 g3 g4 g5 g6;simp only[zA,g0,g1,g2,g3,g4,g5,g6,reduceIte,yQ,yW,yX,yZ,yJ,yK,yV,yY];rfl):@CW Tryz.prog n k ⟨.region id ops true⟩ ⟨Q⟩ f m:=QG hmix q hq hs ((e g0 g1 g2 g3 g4 g5 g6).mpr h)
theorem S8{A:Prop}{F0 F1 F2 F3 F4 F5 F6 F7:Prop}(g0:F0)(g1:F1)(g2:F2)(g3:F3)(g4:F4)(g5:F5)(g6:F6)(g7:F7)(h:B)(e:F0→F1→F2→F3→F4→F5→F6→F7→A=B:=by intro g0 g1 g2 g3 g4 g5 g6 g7;simp only[zA,g0,g1,g2,g3,g4,g5,g6,g7,reduceIte,yQ,yW,yX,yZ,yJ,yK,yV,yY];rfl):A:=(e g0 g1 g2 g3 g4 g5 g6 g7).mpr h
theorem R8{id:Nat}{ops:Array Oper}{F0 F1 F2 F3 F4 F5 F6 F7:Prop}(g0:F0)(g1:F1)(g2:F2)(g3:F3)(g4:F4)(g5:F5)(g6:F6)(g7:F7)(h:B)(e:F0→F1→F2→F3→F4→F5→F6→F7→@sOpsB qc n ops.toList ⟨Q .normal⟩ ops.toList f m=B:=by intro g0 g1 g2 g3 g4 g5 g6 g7;simp only[zA,g0,g1,g2,g3,g4,g5,g6,g7,reduceIte,yQ,yW,yX,yZ,yJ,yK,yV,yY];rfl):@CW Tryz.prog n k ⟨.region id ops false⟩ ⟨Q⟩ f m:=J1 ((e g0 g1 g2 g3 g4 g5 g6 g7).mpr h)
theorem D8{id:Nat}{ops:Array Oper}(q:Nat){F0 F1 F2 F3 F4 F5 F6 F7:Prop}(g0:F0)(g1:F1)(g2:F2)(g3:F3)(g4:F4)(g5:F5)(g6:F6)(g7:F7)(h:B)(hq:Ql ops q=true:=by kernel_rfl)(hs:Nat.ble q ops.size=true:=by kernel_rfl)(e:F0→F1→F2→F3→F4→F5→F6→F7→@sHeadB Tryz.prog n ops.toList m ⟨fun f' M=>@sOpsB Tryz.prog n ops.toList ⟨Q .normal⟩ (ops.toList.drop q) f' M⟩ (ops.toList.take q) false f m=B:=by intro g0 g1 g2 g3 g4 g5 g6 g7;simp only[zA,g0,g1,g2,g3,g4,g5,g6,g7,reduceIte,yQ,yW,yX,yZ,yJ,yK,yV,yY];rfl):@CW Tryz.prog n k ⟨.region id ops true⟩ ⟨Q⟩ f m:=QG hmix q hq hs ((e g0 g1 g2 g3 g4 g5 g6 g7).mpr h)
theorem S9{A:Prop}{F0 F1 F2 F3 F4 F5 F6 F7 F8:Prop}(g0:F0)(g1:F1)(g2:F2)(g3:F3)(g4:F4)(g5:F5)(g6:F6)(g7:F7)(g8:F8)(h:B)(e:F0→F1→F2→F3→F4→F5→F6→F7→F8→A=B:=by intro g0 g1 g2 g3 g4 g5 g6 g7 g8;simp only[zA,g0,g1,g2,g3,g4,g5,g6,g7,g8,reduceIte,yQ,yW,yX,yZ,yJ,yK,yV,yY];rfl):A:=(e g0 g1 g2 g3 g4 g5 g6 g7 g8).mpr h
theorem R9{id:Nat}{ops:Array Oper}{F0 F1 F2 F3 F4 F5 F6 F7 F8:Prop}(g0:F0)(g1:F1)(g2:F2)(g3:F3)(g4:F4)(g5:F5)(g6:F6)(g7:F7)(g8:F8)(h:B)(e:F0→F1→F2→F3→F4→F5→F6→F7→F8→@sOpsB qc n ops.toList ⟨Q .normal⟩ ops.toList f m=B:=by intro g0 g1 g2 g3 g4 g5 g6 g7 g8;simp only[zA,g0,g1,g2,g3,g4,g5,g6,g7,g8,reduceIte,yQ,yW,yX,yZ,yJ,yK,yV,yY];rfl):@CW Tryz.prog n k ⟨.region id ops false⟩ ⟨Q⟩ f m:=J1 ((e g0 g1 g2 g3 g4 g5 g6 g7 g8).mpr h)
theorem D9{id:Nat}{ops:Array Oper}(q:Nat){F0 F1 F2 F3 F4 F5 F6 F7 F8:Prop}(g0:F0)(g1:F1)(g2:F2)(g3:F3)(g4:F4)(g5:F5)(g6:F6)(g7:F7)(g8:F8)(h:B)(hq:Ql ops q=true:=by kernel_rfl)(hs:Nat.ble q ops.size=true:=by kernel_rfl)(e:F0→F1→F2→F3→F4→F5→F6→F7→F8→@sHeadB Tryz.prog n ops.toList m ⟨fun f' M=>@sOpsB Tryz.prog n ops.toList ⟨Q .normal⟩ (ops.toList.drop q) f' M⟩ (ops.toList.take q) false f m=B:=by intro g0 g1 g2 g3 g4 g5 g6 g7 g8;simp only[zA,g0,g1,g2,g3,g4,g5,g6,g7,g8,reduceIte,yQ,yW,yX,yZ,yJ,yK,yV,yY];rfl):@CW Tryz.prog n k ⟨.region id ops true⟩ ⟨Q⟩ f m:=QG hmix q hq hs ((e g0 g1 g2 g3 g4 g5 g6 g7 g8).mpr h)
theorem JK{J:AL→Mem→Prop}(slots:List Nat)(h:B)(e:@QT _ (keepF f slots) ⟨fun f'=>∃m',Thin m m'∧J f' m'⟩=B:=by simp only[zZ,reduceIte,yQ,yW,yX,yZ,yJ,yK,yV,yY,keepF];rfl):@JoinM f m ⟨J⟩:=⟨slots,e.mpr h⟩
end
end Go.Proofs.YthohbneadomgdaaGreatDoor.Abs
namespace Go.Proofs.YthohbneadomgdaaGreatDoor
open Go.RowKit Abs
def dskC(q g:Nat)(d:Dsk):List Value:=[.slice (some ⟨g,0,none⟩) d.old.length d.old.length,.map (some q),.int .i64 d.fuse,.bool d.dead]
structure DskAt(M:Mem)(p q g:Nat)(d:Dsk):Prop where
 ok:d.Ok
 row:∃s,M.get p=some (.cells false s (dskC q g d))
 kv:M.get q=some (.kv false (QW d.last) d.clock)
 old:M.get g=some (.cells false 1 (d.old.map fun s=>.string (str s)))
 pq:p≠q
 pg:p≠g
 qg:q≠g
theorem DskAt.same{M M':Mem}{p q g:Nat}{d:Dsk}(h:DskAt M p q g d)(hs:∀b x,M.get b=some x→M'.get b=some x):DskAt M' p q g d:=
 ⟨h.ok,h.row.imp fun _ hr=>hs _ _ hr,hs _ _ h.kv,hs _ _ h.old,h.pq,h.pg,h.qg⟩
theorem DskAt.only{M M':Mem}{p q g:Nat}{d:Dsk}(h:DskAt M p q g d){l:List Nat}(hs:Only l M M')(hp:p∉l)(hq:q∉l)(hg:g∉l):DskAt M' p q g d:=
 ⟨h.ok,h.row.imp fun _ hr=>hs _ _ hp hr,hs _ _ hq h.kv,hs _ _ hg h.old,h.pq,h.pg,h.qg⟩
theorem DskAt.turn{M:Mem}{p q g:Nat}{d d':Dsk}(h:DskAt M p q g d)(hok:d'.Ok)(ho:d'.old=d.old)(hl:d'.last=d.last)(hc:d'.clock=d.clock)(s:Nat):DskAt (M.set p (some (.cells false s (dskC q g d')))) p q g d':=by
 obtain⟨s0,E⟩:=h.row
 exact⟨hok,⟨s,Mem.get_set_same E _⟩,by rw[Mem.get_set_ne h.pq,hl,hc];exact h.kv,by rw[Mem.get_set_ne h.pg,ho];exact h.old,h.pq,h.pg,h.qg⟩
theorem DskAt.kvTurn{M:Mem}{p q g:Nat}{d:Dsk}(h:DskAt M p q g d){L:X0}{c:Nat}(hok:({ d with last:=L,clock:=c }:Dsk).Ok):DskAt (M.set q (some (.kv false (QW L) c))) p q g { d with last:=L,clock:=c }:=by
 obtain⟨s0,E⟩:=h.row
 exact⟨hok,⟨s0,by rw[Mem.get_set_ne (Ne.symm h.pq)];exact E⟩,Mem.get_set_same h.kv _,by rw[Mem.get_set_ne h.qg];exact h.old,h.pq,h.pg,h.qg⟩
def dp(p:Nat):Value:=.pointer (some ⟨p,0,none⟩)
theorem may_spec(M:Mem)(p q g:Nat)(d:Dsk)(hd:DskAt M p q g d)(i:Int):
 Abs.Spec qc 74 [dp p,.int .i64 i] M fun u M'=>u=.int .i64 (d.may i)∧M'=M:=by
 refine Abs.Spec.walkM Tryz.func74 (by rfl) _ Tryz.results74 _ Tryz.ntmps74 (by simp[dp]) ?_
 intro hc hx k
 unfold dp
 obtain⟨s,I⟩:=hd.row
 unfold dskC at I
 refine J0 (R0 ?_)
 refine J0 (J7 (J0 (R1 @I ?_)))
 refine CF (J0 (R1 @I ?_))
 refine Qd d.dead (by rfl) (fun h=>J0 (J1 ?_)) (fun h=>J0 (J1 ?_))
 ·refine S0 ?_
  refine T0 ?_
  exact⟨M,tR _,by unfold Dsk.may;rw[if_pos h],rfl⟩
 have U:(d.old.length:Int)≤1024:=by have:=hd.ok.n;omega
 have E:∀b:Bool,b=decide (i<0∨(d.old.length:Int)≤i)→(if b=true then(10:Int)else 0)=d.may i:=fun b hb=>by
  have O:d.may i=if i<0∨(d.old.length:Int)≤i then 10 else 0:=by unfold Dsk.may;rw[h];rfl
  rw[O,hb]
  by_cases e:i<0∨(d.old.length:Int)≤i<;>simp[e]
 cases q1:decide (i<0)
 ·refine S2 @I @q1 ?_
  refine CC (decide (i≥(d.old.length:Int))) (fun h2=>J0 (J1 ?_)) (fun h2=>J3 ?_)
  ·refine S0 ?_
   refine T0 ?_
   refine⟨M,tR _,?_,rfl⟩
   rw[←E true (by have:=of_decide_eq_true h2;simp;omega)];rfl
  ·refine S0 ?_
   refine J0 (R0 ?_)
   refine T0 ?_
   refine⟨M,tR _,?_,rfl⟩
   rw[←E false (by have:=of_decide_eq_false h2;have:=of_decide_eq_false q1;simp;omega)];rfl
 ·refine S2 @I @q1 ?_
  refine Qd true (by rfl) (fun h2=>J0 (J1 ?_)) (fun h2=>by cases h2)
  refine S0 ?_
  refine T0 ?_
  refine⟨M,tR _,?_,rfl⟩
  rw[←E true (by have:=of_decide_eq_true q1;simp;omega)];rfl
theorem dlen_spec(M:Mem)(p q g:Nat)(d:Dsk)(hd:DskAt M p q g d):
 Abs.Spec qc 32 [dp p] M fun u M'=>u=.int .i64 (d.old.length:Nat)∧M'=M:=by
 refine Abs.Spec.walkM Tryz.func32 (by rfl) _ Tryz.results32 _ Tryz.ntmps32 (by simp[dp]) ?_
 intro hc hx k
 unfold dp
 obtain⟨s,E⟩:=hd.row
 unfold dskC at E
 refine J0 (R0 ?_)
 refine J0 (J0 (R0 ?_))
 refine CF (J3 ?_)
 refine S0 ?_
 refine J0 (R1 @E ?_)
 refine T0 ?_
 exact⟨M,tR _,rfl⟩
theorem burn_spec(M:Mem)(p q g:Nat)(d:Dsk)(hd:DskAt M p q g d):
 Abs.Spec qc 75 [dp p] M fun u M'=>u=.bool (!decide (d.fuse=0))∧DskAt M' p q g d.burnt∧Only [p] M M'∧M'.size=M.size:=by
 refine Abs.Spec.walkM Tryz.func75 (by rfl) _ Tryz.results75 _ Tryz.ntmps75 (by simp[dp]) ?_
 intro hc hx k
 unfold dp
 obtain⟨s,O⟩:=hd.row
 have I:=O
 unfold dskC at I
 have Y:=hd.ok.fuse
 refine J0 (R0 ?_)
 refine J0 (J0 (R1 @I ?_))
 refine CC (d.fuse==0) (fun h=>J0 (J1 ?_)) (fun h=>J3 ?_)
 ·have E:d.fuse=0:=by simpa using h
  have e:d.burnt={ d with dead:=true }:=by unfold Dsk.burnt;rw[if_pos E]
  refine S1 @I ?_
  refine J0 (R0 ?_)
  refine T0 ?_
  refine⟨_,tR _,by simp[E],?_,Only.set (by simp) _,by simp⟩
  have:=hd.turn hd.ok.burnt (Qp d) (Kw d) (burnt_clock d) s
  rw[e]at this ⊢
  exact this
 ·have E:d.fuse≠0:=by simpa using h
  have e:d.burnt={ d with fuse:=max (d.fuse-1) (-1) }:=by unfold Dsk.burnt;rw[if_neg E]
  refine S0 ?_
  refine J0 (J1 ?_)
  have U:IntKind.i64.wrap (d.fuse-1)=d.fuse-1:=Xn (by omega) (by omega)
  refine S3 @I @U @vMax_int ?_
  refine J0 (R0 ?_)
  refine T0 ?_
  refine⟨_,tR _,by simp[E],?_,Only.set (by simp) _,by simp⟩
  have:=hd.turn hd.ok.burnt (Qp d) (Kw d) (burnt_clock d) s
  rw[e]at this ⊢
  exact this
theorem dead_spec(M:Mem)(p q g:Nat)(d:Dsk)(hd:DskAt M p q g d):
 Abs.Spec qc 27 [dp p] M fun u M'=>u=.bool d.dead∧M'=M:=by
 refine Abs.Spec.walkM Tryz.func27 (by rfl) _ Tryz.results27 _ Tryz.ntmps27 (by simp[dp]) ?_
 intro hc hx k
 unfold dp
 obtain⟨s,E⟩:=hd.row
 unfold dskC at E
 refine J0 (R0 ?_)
 refine J0 (R1 @E ?_)
 refine T0 ?_
 exact⟨M,tR _,rfl⟩
theorem fuse_spec(M:Mem)(p q g:Nat)(d:Dsk)(hd:DskAt M p q g d)(n:Int)(hn:n≤9223372036854775807):
 Abs.Spec qc 7 [dp p,.int .i64 n] M fun u M'=>u=.tuple #[]∧DskAt M' p q g (if d.dead=true then d else { d with fuse:=max n (-1) })∧Only [p] M M'∧M'.size=M.size:=by
 refine Abs.Spec.walkM Tryz.func7 (by rfl) _ Tryz.results7 _ Tryz.ntmps7 (by simp[dp]) ?_
 intro hc hx k
 unfold dp
 obtain⟨s,O⟩:=hd.row
 unfold dskC at O
 refine J0 (R1 @O ?_)
 obtain⟨D,I⟩:∃D,D=(if d.dead=true then d else { d with fuse:=max n (-1) }):=⟨_,rfl⟩
 rw[←I]
 refine CC (!d.dead) (fun h=>J1 ?_) (fun h=>J3 ?_)
 ·have E:d.dead=false:=by simpa using h
  rw[if_neg (by rw[E];simp)]at I
  simp only[zZ,reduceIte,yQ,yW,yX,yZ,yJ,yK,yV,zDk,Jc,Jb,J9,J8,O,vMax_int,mEnd,sAnswer,sAnswer.sRes]
  refine⟨_,tR _,?_,Only.set (by simp) _,by simp⟩
  have:=hd.turn (d':=D) (by rw[I];exact⟨hd.ok.n,hd.ok.pos,hd.ok.size,hd.ok.keys,hd.ok.born,hd.ok.clock,hd.ok.within,by simp only;omega,trivial⟩) (by rw[I]) (by rw[I]) (by rw[I]) s
  rw[I]at this ⊢
  exact this
 ·have E:d.dead=true:=by simpa using h
  rw[if_pos E]at I
  simp only[zZ,reduceIte,yQ,yW,yX,yZ,yJ,yK,yV,zDk,Jc,Jb,J9,J8,mEnd,sAnswer,sAnswer.sRes]
  exact⟨M,tR _,by rw[I];exact hd,Only.refl _ _,rfl⟩
theorem read_spec(M:Mem)(p q g:Nat)(d:Dsk)(hd:DskAt M p q g d)(i:Int):
 Abs.Spec qc 42 [dp p,.int .i64 i] M fun u M'=>u=.tuple #[.string (str (d.read i).1),.int .i64 (d.read i).2]∧M'=M:=by
 refine Abs.Spec.walkM Tryz.func42 (by rfl) _ Tryz.results42 _ Tryz.ntmps42 (by simp[dp]) ?_
 intro hc hx k
 obtain⟨s,E⟩:=hd.row
 unfold dskC at E
 refine J0 (R0 ?_)
 refine J0 (J0 (R0 ?_))
 refine K0 (may_spec M p q g d hd i) ?_
 refine J0 (R0 ?_)
 refine CC (d.may i !=0) (fun h=>J0 (J1 ?_)) (fun h=>J3 ?_)
 ·refine S0 ?_
  refine T0 ?_
  have h:d.may i≠0:=by simpa using h
  unfold Dsk.read
  rw[if_neg h]
  exact⟨_,tR _,rfl,rfl⟩
 have h:d.may i=0:=by simpa using h
 refine S0 ?_
 obtain⟨n,rfl,U⟩:∃n:Nat,i=(n:Int)∧n<d.old.length:=by
  unfold Dsk.may at h
  split at h
  ·cases h
  ·split at h
   ·cases h
   ·exact⟨i.toNat,by omega,by omega⟩
 have O:d.read (n:Int)=(d.sector n,0):=by unfold Dsk.read;rw[if_pos h];rfl
 rw[O]
 have I:dp p=.pointer (some ⟨p,0,none⟩):=rfl
 refine J0 (J0 (J1 ?_))
 simp only[zZ,reduceIte,yQ,yW,yX,yZ,yJ,yK,yV,zDk,Jc,Jb,J9,J8,E,I,look_dsk hd.kv]
 refine J0 (R0 ?_)
 cases hl:Jt d.last n with
 |some s'=>
  simp only[Option.isSome_some,Option.getD_some]
  refine CT (J0 (R0 ?_))
  refine T0 ?_
  unfold Dsk.sector
  rw[hl]
  exact⟨_,tR _,rfl,rfl⟩
 |none=>
  simp only[Option.isSome_none,Option.getD_none]
  refine CF (J3 ?_)
  refine S0 ?_
  refine J0 (J1 ?_)
  have Y:(0:Int)≤(n:Int):=by omega
  have Z:(n:Int)<(d.old.length:Int):=by omega
  have hc:cellIn n (some (.cells false 1 (d.old.map fun s=>.string (str s))))=some (.string (str ((d.old[n]?).getD []))):=by
   simp only[cellIn,List.getElem?_map,qu U,qE,Option.getD_some]
  refine S6 @E @Y @Z @and_self @hd.old @hc ?_
  refine T0 ?_
  unfold Dsk.sector
  rw[hl]
  exact⟨_,tR _,rfl,rfl⟩
theorem rep_zero:∀k:Nat,Lib.repeatL [(0:UInt8)] k=qG k 0
 |0=>rfl
 |k+1=>by rw[Lib.repeatL,rep_zero k];rfl
theorem Z8(M:Mem)(p q g:Nat)(d:Dsk)(hd:DskAt M p q g d)(i:Int)(x:List UInt8)(hx0:x.length≤1000000):
 Abs.Spec qc 38 [dp p,.int .i64 i,.string (str x)] M fun u M'=>u=.int .i64 (d.write i x).2∧DskAt M' p q g (d.write i x).1∧Only [p,q] M M'∧M'.size=M.size:=by
 refine Abs.Spec.walkM Tryz.func38 (by rfl) _ Tryz.results38 _ Tryz.ntmps38 (by simp[dp]) ?_
 intro hc hx k
 have a2:JC (str x)=x.length:=rfl
 obtain⟨D,I⟩:∃D,D=d.write i x:=⟨_,rfl⟩
 rw[←I]
 unfold Dsk.write at I
 refine J0 (R0 ?_)
 refine J0 (J0 (R0 ?_))
 refine K0 (may_spec M p q g d hd i) ?_
 refine J0 (R0 ?_)
 refine CC (d.may i !=0) (fun h=>J0 (J1 ?_)) (fun h=>J3 ?_)
 ·refine S0 ?_
  refine T0 ?_
  have h:d.may i≠0:=by simpa using h
  rw[if_pos h]at I
  subst I
  exact⟨_,tR _,rfl,hd,Only.refl _ _,rfl⟩
 have h:d.may i=0:=by simpa using h
 rw[if_neg (by simp[h])]at I
 refine S0 ?_
 obtain⟨n,rfl,hn⟩:∃n:Nat,i=(n:Int)∧n<d.old.length:=by
  unfold Dsk.may at h
  split at h
  ·cases h
  ·split at h
   ·cases h
   ·exact⟨i.toNat,by omega,by omega⟩
 refine J0 (J0 (R1 @a2 ?_))
 refine CC (decide ((x.length:Int)>256)) (fun h=>J0 (J1 ?_)) (fun h=>J3 ?_)
 ·refine S0 ?_
  refine T0 ?_
  have h:=of_decide_eq_true h
  rw[if_pos (by omega)]at I
  subst I
  exact⟨_,tR _,rfl,hd,Only.refl _ _,rfl⟩
 have h2:=of_decide_eq_false h
 rw[if_neg (by omega)]at I
 refine S0 ?_
 refine J0 (J0 (R0 ?_))
 refine⟨by kernel_rfl,_,burn_spec M p q g d hd,?_⟩
 rintro _ M1 ⟨rfl,E,Z,a7⟩
 refine S0 ?_
 refine CC (!!decide (d.fuse=0)) (fun h=>J0 (J1 ?_)) (fun h=>J3 ?_)
 ·refine S0 ?_
  refine T0 ?_
  rw[Bool.not_not]at h
  have h:=of_decide_eq_true h
  rw[if_pos h]at I
  subst I
  exact⟨_,tR _,rfl,E,Z.mono (by simp),a7⟩
 rw[Bool.not_not]at h
 have h3:=of_decide_eq_false h
 rw[if_neg h3]at I
 refine S0 ?_
 obtain⟨s,hr⟩:=E.row
 unfold dskC at hr
 have w1:IntKind.i64.wrap (256-(x.length:Int))=((256-x.length:Nat):Int):=by rw[Xn (by omega) (by omega)];omega
 have O:Lib.repeatL [(0:UInt8)] (256-x.length)=qG (256-x.length) 0:=rep_zero _
 have ab:dp p=.pointer (some ⟨p,0,none⟩):=rfl
 have a6:JC (str x)+JC (str (Lib.repeatL (str [0]).data.toList (256-x.length)))≤4611686018427387904:=by
  show JC (str x)+JC (str (Lib.repeatL [0] (256-x.length)))≤_
  rw[O];show x.length+(qG (256-x.length) (0:UInt8)).length≤_;simp;omega
 have U:bcat (str x) (str (Lib.repeatL (str [0]).data.toList (256-x.length)))=str (Jg x):=by
  show bcat (str x) (str (Lib.repeatL [0] (256-x.length)))=_
  rw[O];rfl
 refine J0 (CW_draw2 hmix 11 (by kernel_rfl) ?_)
 refine S4 @hr @ab @w1 @a2 ?_
 refine⟨by kernel_rfl,_,repeat_spec (str [0]) (256-x.length) (by omega) (by show 1*(256-x.length)≤_;omega) _,?_⟩
 refine⟨by decide,?_⟩
 have Y:=upd_dsk (s:=Jg x) E.kv E.ok.keys n
 refine S1 @hr ?_
 refine⟨a6,?_⟩
 refine S2 @U @Y ?_
 refine J0 (R0 ?_)
 refine T0 ?_
 subst I
 have aa:=E.ok.put (i:=n) (by rw[Qp];exact hn) (filled_len (s:=x) (by omega))
 refine⟨_,tR _,rfl,E.kvTurn aa,(Z.mono (by simp)).trans (Only.set (by simp) _),by simp[a7]⟩
end Go.Proofs.YthohbneadomgdaaGreatDoor
