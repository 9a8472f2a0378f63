import Derived.Test.YthohbneadomgdaaGreatDoorVisi11
set_option linter.all false
set_option maxRecDepth 100000
set_option maxHeartbeats 16000000
open Nat renaming reduceLT→yQ,reduceEqDiff→yK,reduceAdd→yV,reduceSub→yY,reduceMul→yU
open Int renaming reduceToNat→yW,reduceLE→yX,reduceEq→yZ,reduceLT→yJ

namespace Go.Proofs.YthohbneadomgdaaGreatDoor
open Go.RowKit
def Header.okP(h:Header):Prop:=1≤h.id∧h.id≤4294967295∧h.salt.size=16∧h.root.size=32∧h.tag.size=32∧1≤h.bytes∧h.bytes≤49152∧h.n=(h.bytes+191)/192∧1≤h.raw∧h.raw≤134217728
theorem Header.check_zero(h:Header):h.check=0↔h.okP:=by
 unfold Header.check Header.okP
 constructor
 ·intro hc
  repeat(split at hc; ·exact absurd hc (by decide))
  refine⟨by omega,by omega,by omega,by omega,by omega,by omega,by omega,by omega,by omega,by omega⟩
 ·rintro⟨Z,h2,I,O,U,h6,h7,Y,h9,E⟩
  rw[if_neg (by omega),if_neg (by omega),if_neg (by simp[I]),if_neg (by simp[O]),if_neg (by simp[U]),if_neg (by omega),if_neg (by omega),if_neg (by simp[Y]),if_neg (by omega),if_neg (by omega)]
def Header.may(h:Header):Bool:=decide (h.check=0)
end Go.Proofs.YthohbneadomgdaaGreatDoor
