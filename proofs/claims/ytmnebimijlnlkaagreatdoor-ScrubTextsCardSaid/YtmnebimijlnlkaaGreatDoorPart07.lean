/-
  Loads, stores, addresses, new blocks of the types that a disk's world has.
  A disk, in plain words: what is synced, what was written since; what its methods answer.
  What stays of a memory.
  Sums within bounds; the lesser and the greater.
  The walks of a disk's methods.
  The walk of a disk's Sync.
  SHA-256 as plain functions on lists of bytes. No program here.
  The walks of sha: the schedule.
  The walks of sha: the number of a round.
  The walks of sha: one block.
  A region that draws its order, whose operations but the last ones read old memory or call functions that make memory of their own; the last ones, in one forced order, do whatever they do.
  After the library's two elder forms: the walk over one world with a tail, and the walk over a class of worlds without one.
  The walks of sha: a text that is summed part by part.
-/
import Derived.Test.YtmnebimijlnlkaaGreatDoorPart06
import Derived.RowKit
import Derived.Test.YtmnebimijlnlkaaGreatDoorPart01
import Derived.Deep.QuietTactic
import Derived.BigQuiet
import Derived.StillTailTactics
import Derived.Laws.EntriesVeiled
import Derived.WalkLawsBesides
import Derived.Outline
import Derived.Lib.AppendStr
import Derived.Deep.LoopGhost
set_option linter.unusedSimpArgs false
set_option linter.unusedVariables false
set_option linter.unusedSectionVars false
set_option linter.unnecessarySimpa false
set_option linter.defProp false
namespace Go.Proofs.YtmnebimijlnlkaaGreatDoor
open Go.RowKit Abs
theorem inf_Dsk : Tryz.prog.info? 63 = some Tryz.t63 := by kernel_rfl
theorem sz_Dsk : Tryz.t63.size = 4 := rfl
theorem ld_Dsk (get : Nat → Option Blk) (b o : Nat) : gLoad Tryz.prog get 63 (.pointer (some ⟨b, o, none⟩)) = rowIn 4 o (get b) := ld_row Tryz.underlying63 (row_struct _) inf_Dsk rfl get b o
theorem st_Dsk (m : Mem) (b o : Nat) (v : Value) : aStore Tryz.prog m 63 (.pointer (some ⟨b, o, none⟩)) v = putIn 4 m b o v.cells.toList (m.get b) := st_any inf_Dsk rfl m b o v
theorem al_Dsk : nAlloc Tryz.prog 63 = some (.cells false (aStride Tryz.prog 63) [.slice none 0 0, .map none, .int .i64 0, .bool false]) := by kernel_rfl
theorem bx_Dsk (xs : Array Value) (h : oneAll xs.toList = true) : nBox Tryz.prog 63 (.agg xs) = some (.cells false (aStride Tryz.prog 63) xs.toList) := nBox_row 63 h
theorem fa_Dsk0 (b o : Nat) : aFieldAddr Tryz.prog 63 (.pointer (some ⟨b, o, none⟩)) 0 = some (.pointer (some ⟨b, o, none⟩)) := by kernel_rfl
theorem fa_Dsk1 (b o : Nat) : aFieldAddr Tryz.prog 63 (.pointer (some ⟨b, o, none⟩)) 1 = some (.pointer (some ⟨b, o + 1, none⟩)) := by kernel_rfl
theorem fa_Dsk2 (b o : Nat) : aFieldAddr Tryz.prog 63 (.pointer (some ⟨b, o, none⟩)) 2 = some (.pointer (some ⟨b, o + 2, none⟩)) := by kernel_rfl
theorem fa_Dsk3 (b o : Nat) : aFieldAddr Tryz.prog 63 (.pointer (some ⟨b, o, none⟩)) 3 = some (.pointer (some ⟨b, o + 3, none⟩)) := by kernel_rfl
theorem inf_Scn : Tryz.prog.info? 71 = some Tryz.t71 := by kernel_rfl
theorem sz_Scn : Tryz.t71.size = 5 := rfl
theorem ld_Scn (get : Nat → Option Blk) (b o : Nat) : gLoad Tryz.prog get 71 (.pointer (some ⟨b, o, none⟩)) = rowIn 5 o (get b) := ld_row Tryz.underlying71 (row_struct _) inf_Scn rfl get b o
theorem st_Scn (m : Mem) (b o : Nat) (v : Value) : aStore Tryz.prog m 71 (.pointer (some ⟨b, o, none⟩)) v = putIn 5 m b o v.cells.toList (m.get b) := st_any inf_Scn rfl m b o v
theorem al_Scn : nAlloc Tryz.prog 71 = some (.cells false (aStride Tryz.prog 71) [.pointer none, .string ⟨#[]⟩, .slice none 0 0, .slice none 0 0, .slice none 0 0]) := by kernel_rfl
theorem bx_Scn (xs : Array Value) (h : oneAll xs.toList = true) : nBox Tryz.prog 71 (.agg xs) = some (.cells false (aStride Tryz.prog 71) xs.toList) := nBox_row 71 h
theorem fa_Scn0 (b o : Nat) : aFieldAddr Tryz.prog 71 (.pointer (some ⟨b, o, none⟩)) 0 = some (.pointer (some ⟨b, o, none⟩)) := by kernel_rfl
theorem fa_Scn1 (b o : Nat) : aFieldAddr Tryz.prog 71 (.pointer (some ⟨b, o, none⟩)) 1 = some (.pointer (some ⟨b, o + 1, none⟩)) := by kernel_rfl
theorem fa_Scn2 (b o : Nat) : aFieldAddr Tryz.prog 71 (.pointer (some ⟨b, o, none⟩)) 2 = some (.pointer (some ⟨b, o + 2, none⟩)) := by kernel_rfl
theorem fa_Scn3 (b o : Nat) : aFieldAddr Tryz.prog 71 (.pointer (some ⟨b, o, none⟩)) 3 = some (.pointer (some ⟨b, o + 3, none⟩)) := by kernel_rfl
theorem fa_Scn4 (b o : Nat) : aFieldAddr Tryz.prog 71 (.pointer (some ⟨b, o, none⟩)) 4 = some (.pointer (some ⟨b, o + 4, none⟩)) := by kernel_rfl
theorem inf_Sec : Tryz.prog.info? 27 = some Tryz.t27 := by kernel_rfl
theorem sz_Sec : Tryz.t27.size = 3 := rfl
theorem ld_Sec (get : Nat → Option Blk) (b o : Nat) : gLoad Tryz.prog get 27 (.pointer (some ⟨b, o, none⟩)) = rowIn 3 o (get b) := ld_row Tryz.underlying27 (row_struct _) inf_Sec rfl get b o
theorem st_Sec (m : Mem) (b o : Nat) (v : Value) : aStore Tryz.prog m 27 (.pointer (some ⟨b, o, none⟩)) v = putIn 3 m b o v.cells.toList (m.get b) := st_any inf_Sec rfl m b o v
theorem al_Sec : nAlloc Tryz.prog 27 = some (.cells false (aStride Tryz.prog 27) [.int .i64 0, .int .i64 0, .int .i64 0]) := by kernel_rfl
theorem fa_Sec0 (b o : Nat) : aFieldAddr Tryz.prog 27 (.pointer (some ⟨b, o, none⟩)) 0 = some (.pointer (some ⟨b, o, none⟩)) := by kernel_rfl
theorem fa_Sec1 (b o : Nat) : aFieldAddr Tryz.prog 27 (.pointer (some ⟨b, o, none⟩)) 1 = some (.pointer (some ⟨b, o + 1, none⟩)) := by kernel_rfl
theorem fa_Sec2 (b o : Nat) : aFieldAddr Tryz.prog 27 (.pointer (some ⟨b, o, none⟩)) 2 = some (.pointer (some ⟨b, o + 2, none⟩)) := by kernel_rfl
theorem inf_Flt : Tryz.prog.info? 176 = some Tryz.t176 := by kernel_rfl
theorem sz_Flt : Tryz.t176.size = 2 := rfl
theorem ld_Flt (get : Nat → Option Blk) (b o : Nat) : gLoad Tryz.prog get 176 (.pointer (some ⟨b, o, none⟩)) = rowIn 2 o (get b) := ld_row Tryz.underlying176 (row_struct _) inf_Flt rfl get b o
theorem st_Flt (m : Mem) (b o : Nat) (v : Value) : aStore Tryz.prog m 176 (.pointer (some ⟨b, o, none⟩)) v = putIn 2 m b o v.cells.toList (m.get b) := st_any inf_Flt rfl m b o v
theorem al_Flt : nAlloc Tryz.prog 176 = some (.cells false (aStride Tryz.prog 176) [.int .i64 0, .int .i64 0]) := by kernel_rfl
theorem fa_Flt0 (b o : Nat) : aFieldAddr Tryz.prog 176 (.pointer (some ⟨b, o, none⟩)) 0 = some (.pointer (some ⟨b, o, none⟩)) := by kernel_rfl
theorem fa_Flt1 (b o : Nat) : aFieldAddr Tryz.prog 176 (.pointer (some ⟨b, o, none⟩)) 1 = some (.pointer (some ⟨b, o + 1, none⟩)) := by kernel_rfl
theorem inf_Hdr : Tryz.prog.info? 73 = some Tryz.t73 := by kernel_rfl
theorem sz_Hdr : Tryz.t73.size = 7 := rfl
theorem ld_Hdr (get : Nat → Option Blk) (b o : Nat) : gLoad Tryz.prog get 73 (.pointer (some ⟨b, o, none⟩)) = rowIn 7 o (get b) := ld_row Tryz.underlying73 (row_struct _) inf_Hdr rfl get b o
theorem st_Hdr (m : Mem) (b o : Nat) (v : Value) : aStore Tryz.prog m 73 (.pointer (some ⟨b, o, none⟩)) v = putIn 7 m b o v.cells.toList (m.get b) := st_any inf_Hdr rfl m b o v
theorem al_Hdr : nAlloc Tryz.prog 73 = some (.cells false (aStride Tryz.prog 73) [.int .i64 0, .string ⟨#[]⟩, .int .i64 0, .int .i64 0, .int .i64 0, .string ⟨#[]⟩, .string ⟨#[]⟩]) := by kernel_rfl
theorem fa_Hdr0 (b o : Nat) : aFieldAddr Tryz.prog 73 (.pointer (some ⟨b, o, none⟩)) 0 = some (.pointer (some ⟨b, o, none⟩)) := by kernel_rfl
theorem fa_Hdr1 (b o : Nat) : aFieldAddr Tryz.prog 73 (.pointer (some ⟨b, o, none⟩)) 1 = some (.pointer (some ⟨b, o + 1, none⟩)) := by kernel_rfl
theorem fa_Hdr2 (b o : Nat) : aFieldAddr Tryz.prog 73 (.pointer (some ⟨b, o, none⟩)) 2 = some (.pointer (some ⟨b, o + 2, none⟩)) := by kernel_rfl
theorem fa_Hdr3 (b o : Nat) : aFieldAddr Tryz.prog 73 (.pointer (some ⟨b, o, none⟩)) 3 = some (.pointer (some ⟨b, o + 3, none⟩)) := by kernel_rfl
theorem fa_Hdr4 (b o : Nat) : aFieldAddr Tryz.prog 73 (.pointer (some ⟨b, o, none⟩)) 4 = some (.pointer (some ⟨b, o + 4, none⟩)) := by kernel_rfl
theorem fa_Hdr5 (b o : Nat) : aFieldAddr Tryz.prog 73 (.pointer (some ⟨b, o, none⟩)) 5 = some (.pointer (some ⟨b, o + 5, none⟩)) := by kernel_rfl
theorem fa_Hdr6 (b o : Nat) : aFieldAddr Tryz.prog 73 (.pointer (some ⟨b, o, none⟩)) 6 = some (.pointer (some ⟨b, o + 6, none⟩)) := by kernel_rfl
theorem inf_Ext : Tryz.prog.info? 75 = some Tryz.t75 := by kernel_rfl
theorem sz_Ext : Tryz.t75.size = 8 := rfl
theorem ld_Ext (get : Nat → Option Blk) (b o : Nat) : gLoad Tryz.prog get 75 (.pointer (some ⟨b, o, none⟩)) = rowIn 8 o (get b) := ld_row Tryz.underlying75 (row_struct _) inf_Ext rfl get b o
theorem st_Ext (m : Mem) (b o : Nat) (v : Value) : aStore Tryz.prog m 75 (.pointer (some ⟨b, o, none⟩)) v = putIn 8 m b o v.cells.toList (m.get b) := st_any inf_Ext rfl m b o v
theorem al_Ext : nAlloc Tryz.prog 75 = some (.cells false (aStride Tryz.prog 75) [.int .i64 0, .string ⟨#[]⟩, .int .i64 0, .int .i64 0, .int .i64 0, .string ⟨#[]⟩, .string ⟨#[]⟩, .int .i64 0]) := by kernel_rfl
theorem bx_Ext (xs : Array Value) (h : oneAll xs.toList = true) : nBox Tryz.prog 75 (.agg xs) = some (.cells false (aStride Tryz.prog 75) xs.toList) := nBox_row 75 h
theorem fa_Ext0 (b o : Nat) : aFieldAddr Tryz.prog 75 (.pointer (some ⟨b, o, none⟩)) 0 = some (.pointer (some ⟨b, o, none⟩)) := by kernel_rfl
theorem fa_Ext1 (b o : Nat) : aFieldAddr Tryz.prog 75 (.pointer (some ⟨b, o, none⟩)) 1 = some (.pointer (some ⟨b, o + 7, none⟩)) := by kernel_rfl
theorem inf_Keys : Tryz.prog.info? 67 = some Tryz.t67 := by kernel_rfl
theorem sz_Keys : Tryz.t67.size = 3 := rfl
theorem ld_Keys (get : Nat → Option Blk) (b o : Nat) : gLoad Tryz.prog get 67 (.pointer (some ⟨b, o, none⟩)) = rowIn 3 o (get b) := ld_row Tryz.underlying67 (row_struct _) inf_Keys rfl get b o
theorem st_Keys (m : Mem) (b o : Nat) (v : Value) : aStore Tryz.prog m 67 (.pointer (some ⟨b, o, none⟩)) v = putIn 3 m b o v.cells.toList (m.get b) := st_any inf_Keys rfl m b o v
theorem al_Keys : nAlloc Tryz.prog 67 = some (.cells false (aStride Tryz.prog 67) [.string ⟨#[]⟩, .string ⟨#[]⟩, .string ⟨#[]⟩]) := by kernel_rfl
theorem fa_Keys0 (b o : Nat) : aFieldAddr Tryz.prog 67 (.pointer (some ⟨b, o, none⟩)) 0 = some (.pointer (some ⟨b, o, none⟩)) := by kernel_rfl
theorem fa_Keys1 (b o : Nat) : aFieldAddr Tryz.prog 67 (.pointer (some ⟨b, o, none⟩)) 1 = some (.pointer (some ⟨b, o + 1, none⟩)) := by kernel_rfl
theorem fa_Keys2 (b o : Nat) : aFieldAddr Tryz.prog 67 (.pointer (some ⟨b, o, none⟩)) 2 = some (.pointer (some ⟨b, o + 2, none⟩)) := by kernel_rfl
theorem inf_Dep : Tryz.prog.info? 112 = some Tryz.t112 := by kernel_rfl
theorem sz_Dep : Tryz.t112.size = 16 := rfl
theorem ld_Dep (get : Nat → Option Blk) (b o : Nat) : gLoad Tryz.prog get 112 (.pointer (some ⟨b, o, none⟩)) = rowIn 16 o (get b) := ld_row Tryz.underlying112 (row_struct _) inf_Dep rfl get b o
theorem st_Dep (m : Mem) (b o : Nat) (v : Value) : aStore Tryz.prog m 112 (.pointer (some ⟨b, o, none⟩)) v = putIn 16 m b o v.cells.toList (m.get b) := st_any inf_Dep rfl m b o v
theorem al_Dep : nAlloc Tryz.prog 112 = some (.cells false (aStride Tryz.prog 112) [.pointer none, .string ⟨#[]⟩, .int .i64 0, .pointer none, .pointer none, .pointer none, .pointer none, .pointer none, .pointer none, .pointer none, .pointer none, .pointer none, .pointer none, .pointer none, .pointer none, .int .i64 0]) := by kernel_rfl
theorem bx_Dep (xs : Array Value) (h : oneAll xs.toList = true) : nBox Tryz.prog 112 (.agg xs) = some (.cells false (aStride Tryz.prog 112) xs.toList) := nBox_row 112 h
theorem fa_Dep0 (b o : Nat) : aFieldAddr Tryz.prog 112 (.pointer (some ⟨b, o, none⟩)) 0 = some (.pointer (some ⟨b, o, none⟩)) := by kernel_rfl
theorem fa_Dep1 (b o : Nat) : aFieldAddr Tryz.prog 112 (.pointer (some ⟨b, o, none⟩)) 1 = some (.pointer (some ⟨b, o + 1, none⟩)) := by kernel_rfl
theorem fa_Dep2 (b o : Nat) : aFieldAddr Tryz.prog 112 (.pointer (some ⟨b, o, none⟩)) 2 = some (.pointer (some ⟨b, o + 2, none⟩)) := by kernel_rfl
theorem fa_Dep3 (b o : Nat) : aFieldAddr Tryz.prog 112 (.pointer (some ⟨b, o, none⟩)) 3 = some (.pointer (some ⟨b, o + 3, none⟩)) := by kernel_rfl
theorem fa_Dep4 (b o : Nat) : aFieldAddr Tryz.prog 112 (.pointer (some ⟨b, o, none⟩)) 4 = some (.pointer (some ⟨b, o + 7, none⟩)) := by kernel_rfl
theorem fa_Dep5 (b o : Nat) : aFieldAddr Tryz.prog 112 (.pointer (some ⟨b, o, none⟩)) 5 = some (.pointer (some ⟨b, o + 15, none⟩)) := by kernel_rfl
theorem inf_Set : Tryz.prog.info? 83 = some Tryz.t83 := by kernel_rfl
theorem sz_Set : Tryz.t83.size = 5 := rfl
theorem ld_Set (get : Nat → Option Blk) (b o : Nat) : gLoad Tryz.prog get 83 (.pointer (some ⟨b, o, none⟩)) = rowIn 5 o (get b) := ld_row Tryz.underlying83 (row_struct _) inf_Set rfl get b o
theorem st_Set (m : Mem) (b o : Nat) (v : Value) : aStore Tryz.prog m 83 (.pointer (some ⟨b, o, none⟩)) v = putIn 5 m b o v.cells.toList (m.get b) := st_any inf_Set rfl m b o v
theorem al_Set : nAlloc Tryz.prog 83 = some (.cells false (aStride Tryz.prog 83) [.int .i64 0, .int .u64 0, .int .u64 0, .int .u64 0, .int .u64 0]) := by kernel_rfl
theorem fa_Set0 (b o : Nat) : aFieldAddr Tryz.prog 83 (.pointer (some ⟨b, o, none⟩)) 0 = some (.pointer (some ⟨b, o, none⟩)) := by kernel_rfl
theorem fa_Set1 (b o : Nat) : aFieldAddr Tryz.prog 83 (.pointer (some ⟨b, o, none⟩)) 1 = some (.pointer (some ⟨b, o + 1, none⟩)) := by kernel_rfl
theorem inf_Rec : Tryz.prog.info? 85 = some Tryz.t85 := by kernel_rfl
theorem sz_Rec : Tryz.t85.size = 13 := rfl
theorem ld_Rec (get : Nat → Option Blk) (b o : Nat) : gLoad Tryz.prog get 85 (.pointer (some ⟨b, o, none⟩)) = rowIn 13 o (get b) := ld_row Tryz.underlying85 (row_struct _) inf_Rec rfl get b o
theorem st_Rec (m : Mem) (b o : Nat) (v : Value) : aStore Tryz.prog m 85 (.pointer (some ⟨b, o, none⟩)) v = putIn 13 m b o v.cells.toList (m.get b) := st_any inf_Rec rfl m b o v
theorem al_Rec : nAlloc Tryz.prog 85 = some (.cells false (aStride Tryz.prog 85) [.int .i64 0, .string ⟨#[]⟩, .int .i64 0, .int .i64 0, .int .i64 0, .string ⟨#[]⟩, .string ⟨#[]⟩, .int .i64 0, .int .i64 0, .int .u64 0, .int .u64 0, .int .u64 0, .int .u64 0]) := by kernel_rfl
theorem fa_Rec0 (b o : Nat) : aFieldAddr Tryz.prog 85 (.pointer (some ⟨b, o, none⟩)) 0 = some (.pointer (some ⟨b, o, none⟩)) := by kernel_rfl
theorem fa_Rec1 (b o : Nat) : aFieldAddr Tryz.prog 85 (.pointer (some ⟨b, o, none⟩)) 1 = some (.pointer (some ⟨b, o + 8, none⟩)) := by kernel_rfl
theorem inf_A8 : Tryz.prog.info? 110 = some Tryz.t110 := by kernel_rfl
theorem sz_A8 : Tryz.t110.size = 8 := rfl
theorem ld_A8 (get : Nat → Option Blk) (b o : Nat) : gLoad Tryz.prog get 110 (.pointer (some ⟨b, o, none⟩)) = rowIn 8 o (get b) := ld_row Tryz.underlying110 (row_array _ _) inf_A8 rfl get b o
theorem st_A8 (m : Mem) (b o : Nat) (v : Value) : aStore Tryz.prog m 110 (.pointer (some ⟨b, o, none⟩)) v = putIn 8 m b o v.cells.toList (m.get b) := st_any inf_A8 rfl m b o v
theorem al_A8 : nAlloc Tryz.prog 110 = some (.cells false (aStride Tryz.prog 110) [.pointer none, .pointer none, .pointer none, .pointer none, .pointer none, .pointer none, .pointer none, .pointer none]) := by kernel_rfl
theorem inf_A4 : Tryz.prog.info? 108 = some Tryz.t108 := by kernel_rfl
theorem sz_A4 : Tryz.t108.size = 4 := rfl
theorem ld_A4 (get : Nat → Option Blk) (b o : Nat) : gLoad Tryz.prog get 108 (.pointer (some ⟨b, o, none⟩)) = rowIn 4 o (get b) := ld_row Tryz.underlying108 (row_array _ _) inf_A4 rfl get b o
theorem st_A4 (m : Mem) (b o : Nat) (v : Value) : aStore Tryz.prog m 108 (.pointer (some ⟨b, o, none⟩)) v = putIn 4 m b o v.cells.toList (m.get b) := st_any inf_A4 rfl m b o v
theorem al_A4 : nAlloc Tryz.prog 108 = some (.cells false (aStride Tryz.prog 108) [.pointer none, .pointer none, .pointer none, .pointer none]) := by kernel_rfl
theorem inf_Str : Tryz.prog.info? 9 = some Tryz.t9 := by kernel_rfl
theorem sz_Str : Tryz.t9.size = 1 := rfl
theorem ld_Str (get : Nat → Option Blk) (b o : Nat) : gLoad Tryz.prog get 9 (.pointer (some ⟨b, o, none⟩)) = cellIn o (get b) := ld_cell Tryz.underlying9 rfl get b o
theorem st_Str (m : Mem) (b o : Nat) (v : Value) : aStore Tryz.prog m 9 (.pointer (some ⟨b, o, none⟩)) v = putIn 1 m b o v.cells.toList (m.get b) := st_any inf_Str rfl m b o v
theorem al_Str : nAlloc Tryz.prog 9 = some (.cells false (aStride Tryz.prog 9) [.string ⟨#[]⟩]) := by kernel_rfl
theorem inf_Int : Tryz.prog.info? 3 = some Tryz.t3 := by kernel_rfl
theorem sz_Int : Tryz.t3.size = 1 := rfl
theorem ld_Int (get : Nat → Option Blk) (b o : Nat) : gLoad Tryz.prog get 3 (.pointer (some ⟨b, o, none⟩)) = cellIn o (get b) := ld_cell Tryz.underlying3 rfl get b o
theorem st_Int (m : Mem) (b o : Nat) (v : Value) : aStore Tryz.prog m 3 (.pointer (some ⟨b, o, none⟩)) v = putIn 1 m b o v.cells.toList (m.get b) := st_any inf_Int rfl m b o v
theorem al_Int : nAlloc Tryz.prog 3 = some (.cells false (aStride Tryz.prog 3) [.int .i64 0]) := by kernel_rfl
theorem inf_Bool : Tryz.prog.info? 4 = some Tryz.t4 := by kernel_rfl
theorem sz_Bool : Tryz.t4.size = 1 := rfl
theorem ld_Bool (get : Nat → Option Blk) (b o : Nat) : gLoad Tryz.prog get 4 (.pointer (some ⟨b, o, none⟩)) = cellIn o (get b) := ld_cell Tryz.underlying4 rfl get b o
theorem st_Bool (m : Mem) (b o : Nat) (v : Value) : aStore Tryz.prog m 4 (.pointer (some ⟨b, o, none⟩)) v = putIn 1 m b o v.cells.toList (m.get b) := st_any inf_Bool rfl m b o v
theorem al_Bool : nAlloc Tryz.prog 4 = some (.cells false (aStride Tryz.prog 4) [.bool false]) := by kernel_rfl
theorem inf_SS : Tryz.prog.info? 58 = some Tryz.t58 := by kernel_rfl
theorem sz_SS : Tryz.t58.size = 1 := rfl
theorem ld_SS (get : Nat → Option Blk) (b o : Nat) : gLoad Tryz.prog get 58 (.pointer (some ⟨b, o, none⟩)) = cellIn o (get b) := ld_cell Tryz.underlying58 rfl get b o
theorem st_SS (m : Mem) (b o : Nat) (v : Value) : aStore Tryz.prog m 58 (.pointer (some ⟨b, o, none⟩)) v = putIn 1 m b o v.cells.toList (m.get b) := st_any inf_SS rfl m b o v
theorem al_SS : nAlloc Tryz.prog 58 = some (.cells false (aStride Tryz.prog 58) [.slice none 0 0]) := by kernel_rfl
theorem inf_Err : Tryz.prog.info? 33 = some Tryz.t33 := by kernel_rfl
theorem sz_Err : Tryz.t33.size = 1 := rfl
theorem ld_Err (get : Nat → Option Blk) (b o : Nat) : gLoad Tryz.prog get 33 (.pointer (some ⟨b, o, none⟩)) = cellIn o (get b) := ld_cell Tryz.underlying33 rfl get b o
theorem st_Err (m : Mem) (b o : Nat) (v : Value) : aStore Tryz.prog m 33 (.pointer (some ⟨b, o, none⟩)) v = putIn 1 m b o v.cells.toList (m.get b) := st_any inf_Err rfl m b o v
theorem al_Err : nAlloc Tryz.prog 33 = some (.cells false (aStride Tryz.prog 33) [.int .i64 0]) := by kernel_rfl
theorem inf_Map : Tryz.prog.info? 61 = some Tryz.t61 := by kernel_rfl
theorem sz_Map : Tryz.t61.size = 1 := rfl
theorem ld_Map (get : Nat → Option Blk) (b o : Nat) : gLoad Tryz.prog get 61 (.pointer (some ⟨b, o, none⟩)) = cellIn o (get b) := ld_cell Tryz.underlying61 rfl get b o
theorem st_Map (m : Mem) (b o : Nat) (v : Value) : aStore Tryz.prog m 61 (.pointer (some ⟨b, o, none⟩)) v = putIn 1 m b o v.cells.toList (m.get b) := st_any inf_Map rfl m b o v
theorem al_Map : nAlloc Tryz.prog 61 = some (.cells false (aStride Tryz.prog 61) [.map none]) := by kernel_rfl
theorem inf_PD : Tryz.prog.info? 32 = some Tryz.t32 := by kernel_rfl
theorem sz_PD : Tryz.t32.size = 1 := rfl
theorem ld_PD (get : Nat → Option Blk) (b o : Nat) : gLoad Tryz.prog get 32 (.pointer (some ⟨b, o, none⟩)) = cellIn o (get b) := ld_cell Tryz.underlying32 rfl get b o
theorem st_PD (m : Mem) (b o : Nat) (v : Value) : aStore Tryz.prog m 32 (.pointer (some ⟨b, o, none⟩)) v = putIn 1 m b o v.cells.toList (m.get b) := st_any inf_PD rfl m b o v
theorem al_PD : nAlloc Tryz.prog 32 = some (.cells false (aStride Tryz.prog 32) [.pointer none]) := by kernel_rfl
theorem inf_Secs : Tryz.prog.info? 23 = some Tryz.t23 := by kernel_rfl
theorem sz_Secs : Tryz.t23.size = 1 := rfl
theorem ld_Secs (get : Nat → Option Blk) (b o : Nat) : gLoad Tryz.prog get 23 (.pointer (some ⟨b, o, none⟩)) = cellIn o (get b) := ld_cell Tryz.underlying23 rfl get b o
theorem st_Secs (m : Mem) (b o : Nat) (v : Value) : aStore Tryz.prog m 23 (.pointer (some ⟨b, o, none⟩)) v = putIn 1 m b o v.cells.toList (m.get b) := st_any inf_Secs rfl m b o v
theorem al_Secs : nAlloc Tryz.prog 23 = some (.cells false (aStride Tryz.prog 23) [.slice none 0 0]) := by kernel_rfl
theorem inf_Flts : Tryz.prog.info? 36 = some Tryz.t36 := by kernel_rfl
theorem sz_Flts : Tryz.t36.size = 1 := rfl
theorem ld_Flts (get : Nat → Option Blk) (b o : Nat) : gLoad Tryz.prog get 36 (.pointer (some ⟨b, o, none⟩)) = cellIn o (get b) := ld_cell Tryz.underlying36 rfl get b o
theorem st_Flts (m : Mem) (b o : Nat) (v : Value) : aStore Tryz.prog m 36 (.pointer (some ⟨b, o, none⟩)) v = putIn 1 m b o v.cells.toList (m.get b) := st_any inf_Flts rfl m b o v
theorem al_Flts : nAlloc Tryz.prog 36 = some (.cells false (aStride Tryz.prog 36) [.slice none 0 0]) := by kernel_rfl
theorem inf_Exts : Tryz.prog.info? 69 = some Tryz.t69 := by kernel_rfl
theorem sz_Exts : Tryz.t69.size = 1 := rfl
theorem ld_Exts (get : Nat → Option Blk) (b o : Nat) : gLoad Tryz.prog get 69 (.pointer (some ⟨b, o, none⟩)) = cellIn o (get b) := ld_cell Tryz.underlying69 rfl get b o
theorem st_Exts (m : Mem) (b o : Nat) (v : Value) : aStore Tryz.prog m 69 (.pointer (some ⟨b, o, none⟩)) v = putIn 1 m b o v.cells.toList (m.get b) := st_any inf_Exts rfl m b o v
theorem al_Exts : nAlloc Tryz.prog 69 = some (.cells false (aStride Tryz.prog 69) [.slice none 0 0]) := by kernel_rfl
theorem cl_int (k : IntKind) (n : Int) : (Value.int k n).cells.toList = [.int k n] := rfl
theorem oc_int (k : IntKind) (n : Int) : (Value.int k n).oneCell' = true := rfl
theorem cl_string (s : ByteArray) : (Value.string s).cells.toList = [.string s] := rfl
theorem oc_string (s : ByteArray) : (Value.string s).oneCell' = true := rfl
theorem cl_bool (b : Bool) : (Value.bool b).cells.toList = [.bool b] := rfl
theorem oc_bool (b : Bool) : (Value.bool b).oneCell' = true := rfl
theorem cl_sl (a : Option Addr) (n c : Nat) : (Value.slice a n c).cells.toList = [.slice a n c] := rfl
theorem oc_sl (a : Option Addr) (n c : Nat) : (Value.slice a n c).oneCell' = true := rfl
theorem cl_pt (a : Option Addr) : (Value.pointer a).cells.toList = [.pointer a] := rfl
theorem oc_pt (a : Option Addr) : (Value.pointer a).oneCell' = true := rfl
theorem cl_mp (a : Option Nat) : (Value.map a).cells.toList = [.map a] := rfl
theorem oc_mp (a : Option Nat) : (Value.map a).oneCell' = true := rfl
theorem oa_cons (v : Value) (r : List Value) : oneAll (v :: r) = (v.oneCell' && oneAll r) := rfl
theorem oa_nil : oneAll [] = true := rfl
theorem g_nt : ((none : Option Bool) == some true) = false := rfl
theorem g_nf : ((none : Option Bool) == some false) = false := rfl
theorem undef_eq : undef = .tuple #[] := rfl
theorem ta_v (l : List Value) : l.toArray.toList = l := rfl
theorem rw_1_0_1 (r : Bool) (s : Nat) (a0 : Value) : rowIn 1 0 (some (.cells r s [a0])) = some (.agg #[a0]) := rfl
theorem pt_1_0_1 (m : Mem) (j s : Nat) (a0 x0 : Value) (h : oneAll [x0] = true) : putIn 1 m j 0 [x0] (some (.cells false s [a0])) = some (m.set j (some (.cells false s [x0]))) := if_pos ⟨rfl, Nat.le_of_ble_eq_true rfl, h⟩
theorem rw_2_0_2 (r : Bool) (s : Nat) (a0 a1 : Value) : rowIn 2 0 (some (.cells r s [a0, a1])) = some (.agg #[a0, a1]) := rfl
theorem pt_2_0_2 (m : Mem) (j s : Nat) (a0 a1 x0 x1 : Value) (h : oneAll [x0, x1] = true) : putIn 2 m j 0 [x0, x1] (some (.cells false s [a0, a1])) = some (m.set j (some (.cells false s [x0, x1]))) := if_pos ⟨rfl, Nat.le_of_ble_eq_true rfl, h⟩
theorem pt_2_0_1 (m : Mem) (j s : Nat) (a0 a1 x0 : Value) (h : oneAll [x0] = true) : putIn 1 m j 0 [x0] (some (.cells false s [a0, a1])) = some (m.set j (some (.cells false s [x0, a1]))) := if_pos ⟨rfl, Nat.le_of_ble_eq_true rfl, h⟩
theorem pt_2_1_1 (m : Mem) (j s : Nat) (a0 a1 x0 : Value) (h : oneAll [x0] = true) : putIn 1 m j 1 [x0] (some (.cells false s [a0, a1])) = some (m.set j (some (.cells false s [a0, x0]))) := if_pos ⟨rfl, Nat.le_of_ble_eq_true rfl, h⟩
theorem rw_3_0_3 (r : Bool) (s : Nat) (a0 a1 a2 : Value) : rowIn 3 0 (some (.cells r s [a0, a1, a2])) = some (.agg #[a0, a1, a2]) := rfl
theorem pt_3_0_3 (m : Mem) (j s : Nat) (a0 a1 a2 x0 x1 x2 : Value) (h : oneAll [x0, x1, x2] = true) : putIn 3 m j 0 [x0, x1, x2] (some (.cells false s [a0, a1, a2])) = some (m.set j (some (.cells false s [x0, x1, x2]))) := if_pos ⟨rfl, Nat.le_of_ble_eq_true rfl, h⟩
theorem pt_3_0_1 (m : Mem) (j s : Nat) (a0 a1 a2 x0 : Value) (h : oneAll [x0] = true) : putIn 1 m j 0 [x0] (some (.cells false s [a0, a1, a2])) = some (m.set j (some (.cells false s [x0, a1, a2]))) := if_pos ⟨rfl, Nat.le_of_ble_eq_true rfl, h⟩
theorem pt_3_1_1 (m : Mem) (j s : Nat) (a0 a1 a2 x0 : Value) (h : oneAll [x0] = true) : putIn 1 m j 1 [x0] (some (.cells false s [a0, a1, a2])) = some (m.set j (some (.cells false s [a0, x0, a2]))) := if_pos ⟨rfl, Nat.le_of_ble_eq_true rfl, h⟩
theorem pt_3_2_1 (m : Mem) (j s : Nat) (a0 a1 a2 x0 : Value) (h : oneAll [x0] = true) : putIn 1 m j 2 [x0] (some (.cells false s [a0, a1, a2])) = some (m.set j (some (.cells false s [a0, a1, x0]))) := if_pos ⟨rfl, Nat.le_of_ble_eq_true rfl, h⟩
theorem rw_4_0_4 (r : Bool) (s : Nat) (a0 a1 a2 a3 : Value) : rowIn 4 0 (some (.cells r s [a0, a1, a2, a3])) = some (.agg #[a0, a1, a2, a3]) := rfl
theorem pt_4_0_4 (m : Mem) (j s : Nat) (a0 a1 a2 a3 x0 x1 x2 x3 : Value) (h : oneAll [x0, x1, x2, x3] = true) : putIn 4 m j 0 [x0, x1, x2, x3] (some (.cells false s [a0, a1, a2, a3])) = some (m.set j (some (.cells false s [x0, x1, x2, x3]))) := if_pos ⟨rfl, Nat.le_of_ble_eq_true rfl, h⟩
theorem pt_4_0_1 (m : Mem) (j s : Nat) (a0 a1 a2 a3 x0 : Value) (h : oneAll [x0] = true) : putIn 1 m j 0 [x0] (some (.cells false s [a0, a1, a2, a3])) = some (m.set j (some (.cells false s [x0, a1, a2, a3]))) := if_pos ⟨rfl, Nat.le_of_ble_eq_true rfl, h⟩
theorem pt_4_1_1 (m : Mem) (j s : Nat) (a0 a1 a2 a3 x0 : Value) (h : oneAll [x0] = true) : putIn 1 m j 1 [x0] (some (.cells false s [a0, a1, a2, a3])) = some (m.set j (some (.cells false s [a0, x0, a2, a3]))) := if_pos ⟨rfl, Nat.le_of_ble_eq_true rfl, h⟩
theorem pt_4_2_1 (m : Mem) (j s : Nat) (a0 a1 a2 a3 x0 : Value) (h : oneAll [x0] = true) : putIn 1 m j 2 [x0] (some (.cells false s [a0, a1, a2, a3])) = some (m.set j (some (.cells false s [a0, a1, x0, a3]))) := if_pos ⟨rfl, Nat.le_of_ble_eq_true rfl, h⟩
theorem pt_4_3_1 (m : Mem) (j s : Nat) (a0 a1 a2 a3 x0 : Value) (h : oneAll [x0] = true) : putIn 1 m j 3 [x0] (some (.cells false s [a0, a1, a2, a3])) = some (m.set j (some (.cells false s [a0, a1, a2, x0]))) := if_pos ⟨rfl, Nat.le_of_ble_eq_true rfl, h⟩
theorem rw_5_0_5 (r : Bool) (s : Nat) (a0 a1 a2 a3 a4 : Value) : rowIn 5 0 (some (.cells r s [a0, a1, a2, a3, a4])) = some (.agg #[a0, a1, a2, a3, a4]) := rfl
theorem pt_5_0_5 (m : Mem) (j s : Nat) (a0 a1 a2 a3 a4 x0 x1 x2 x3 x4 : Value) (h : oneAll [x0, x1, x2, x3, x4] = true) : putIn 5 m j 0 [x0, x1, x2, x3, x4] (some (.cells false s [a0, a1, a2, a3, a4])) = some (m.set j (some (.cells false s [x0, x1, x2, x3, x4]))) := if_pos ⟨rfl, Nat.le_of_ble_eq_true rfl, h⟩
theorem pt_5_0_1 (m : Mem) (j s : Nat) (a0 a1 a2 a3 a4 x0 : Value) (h : oneAll [x0] = true) : putIn 1 m j 0 [x0] (some (.cells false s [a0, a1, a2, a3, a4])) = some (m.set j (some (.cells false s [x0, a1, a2, a3, a4]))) := if_pos ⟨rfl, Nat.le_of_ble_eq_true rfl, h⟩
theorem pt_5_1_1 (m : Mem) (j s : Nat) (a0 a1 a2 a3 a4 x0 : Value) (h : oneAll [x0] = true) : putIn 1 m j 1 [x0] (some (.cells false s [a0, a1, a2, a3, a4])) = some (m.set j (some (.cells false s [a0, x0, a2, a3, a4]))) := if_pos ⟨rfl, Nat.le_of_ble_eq_true rfl, h⟩
theorem pt_5_2_1 (m : Mem) (j s : Nat) (a0 a1 a2 a3 a4 x0 : Value) (h : oneAll [x0] = true) : putIn 1 m j 2 [x0] (some (.cells false s [a0, a1, a2, a3, a4])) = some (m.set j (some (.cells false s [a0, a1, x0, a3, a4]))) := if_pos ⟨rfl, Nat.le_of_ble_eq_true rfl, h⟩
theorem pt_5_3_1 (m : Mem) (j s : Nat) (a0 a1 a2 a3 a4 x0 : Value) (h : oneAll [x0] = true) : putIn 1 m j 3 [x0] (some (.cells false s [a0, a1, a2, a3, a4])) = some (m.set j (some (.cells false s [a0, a1, a2, x0, a4]))) := if_pos ⟨rfl, Nat.le_of_ble_eq_true rfl, h⟩
theorem pt_5_4_1 (m : Mem) (j s : Nat) (a0 a1 a2 a3 a4 x0 : Value) (h : oneAll [x0] = true) : putIn 1 m j 4 [x0] (some (.cells false s [a0, a1, a2, a3, a4])) = some (m.set j (some (.cells false s [a0, a1, a2, a3, x0]))) := if_pos ⟨rfl, Nat.le_of_ble_eq_true rfl, h⟩
theorem rw_8_0_8 (r : Bool) (s : Nat) (a0 a1 a2 a3 a4 a5 a6 a7 : Value) : rowIn 8 0 (some (.cells r s [a0, a1, a2, a3, a4, a5, a6, a7])) = some (.agg #[a0, a1, a2, a3, a4, a5, a6, a7]) := rfl
theorem rw_8_0_7 (r : Bool) (s : Nat) (a0 a1 a2 a3 a4 a5 a6 a7 : Value) : rowIn 7 0 (some (.cells r s [a0, a1, a2, a3, a4, a5, a6, a7])) = some (.agg #[a0, a1, a2, a3, a4, a5, a6]) := rfl
theorem pt_8_0_8 (m : Mem) (j s : Nat) (a0 a1 a2 a3 a4 a5 a6 a7 x0 x1 x2 x3 x4 x5 x6 x7 : Value) (h : oneAll [x0, x1, x2, x3, x4, x5, x6, x7] = true) : putIn 8 m j 0 [x0, x1, x2, x3, x4, x5, x6, x7] (some (.cells false s [a0, a1, a2, a3, a4, a5, a6, a7])) = some (m.set j (some (.cells false s [x0, x1, x2, x3, x4, x5, x6, x7]))) := if_pos ⟨rfl, Nat.le_of_ble_eq_true rfl, h⟩
theorem pt_8_0_7 (m : Mem) (j s : Nat) (a0 a1 a2 a3 a4 a5 a6 a7 x0 x1 x2 x3 x4 x5 x6 : Value) (h : oneAll [x0, x1, x2, x3, x4, x5, x6] = true) : putIn 7 m j 0 [x0, x1, x2, x3, x4, x5, x6] (some (.cells false s [a0, a1, a2, a3, a4, a5, a6, a7])) = some (m.set j (some (.cells false s [x0, x1, x2, x3, x4, x5, x6, a7]))) := if_pos ⟨rfl, Nat.le_of_ble_eq_true rfl, h⟩
theorem pt_8_0_1 (m : Mem) (j s : Nat) (a0 a1 a2 a3 a4 a5 a6 a7 x0 : Value) (h : oneAll [x0] = true) : putIn 1 m j 0 [x0] (some (.cells false s [a0, a1, a2, a3, a4, a5, a6, a7])) = some (m.set j (some (.cells false s [x0, a1, a2, a3, a4, a5, a6, a7]))) := if_pos ⟨rfl, Nat.le_of_ble_eq_true rfl, h⟩
theorem pt_8_1_1 (m : Mem) (j s : Nat) (a0 a1 a2 a3 a4 a5 a6 a7 x0 : Value) (h : oneAll [x0] = true) : putIn 1 m j 1 [x0] (some (.cells false s [a0, a1, a2, a3, a4, a5, a6, a7])) = some (m.set j (some (.cells false s [a0, x0, a2, a3, a4, a5, a6, a7]))) := if_pos ⟨rfl, Nat.le_of_ble_eq_true rfl, h⟩
theorem pt_8_2_1 (m : Mem) (j s : Nat) (a0 a1 a2 a3 a4 a5 a6 a7 x0 : Value) (h : oneAll [x0] = true) : putIn 1 m j 2 [x0] (some (.cells false s [a0, a1, a2, a3, a4, a5, a6, a7])) = some (m.set j (some (.cells false s [a0, a1, x0, a3, a4, a5, a6, a7]))) := if_pos ⟨rfl, Nat.le_of_ble_eq_true rfl, h⟩
theorem pt_8_3_1 (m : Mem) (j s : Nat) (a0 a1 a2 a3 a4 a5 a6 a7 x0 : Value) (h : oneAll [x0] = true) : putIn 1 m j 3 [x0] (some (.cells false s [a0, a1, a2, a3, a4, a5, a6, a7])) = some (m.set j (some (.cells false s [a0, a1, a2, x0, a4, a5, a6, a7]))) := if_pos ⟨rfl, Nat.le_of_ble_eq_true rfl, h⟩
theorem pt_8_4_1 (m : Mem) (j s : Nat) (a0 a1 a2 a3 a4 a5 a6 a7 x0 : Value) (h : oneAll [x0] = true) : putIn 1 m j 4 [x0] (some (.cells false s [a0, a1, a2, a3, a4, a5, a6, a7])) = some (m.set j (some (.cells false s [a0, a1, a2, a3, x0, a5, a6, a7]))) := if_pos ⟨rfl, Nat.le_of_ble_eq_true rfl, h⟩
theorem pt_8_5_1 (m : Mem) (j s : Nat) (a0 a1 a2 a3 a4 a5 a6 a7 x0 : Value) (h : oneAll [x0] = true) : putIn 1 m j 5 [x0] (some (.cells false s [a0, a1, a2, a3, a4, a5, a6, a7])) = some (m.set j (some (.cells false s [a0, a1, a2, a3, a4, x0, a6, a7]))) := if_pos ⟨rfl, Nat.le_of_ble_eq_true rfl, h⟩
theorem pt_8_6_1 (m : Mem) (j s : Nat) (a0 a1 a2 a3 a4 a5 a6 a7 x0 : Value) (h : oneAll [x0] = true) : putIn 1 m j 6 [x0] (some (.cells false s [a0, a1, a2, a3, a4, a5, a6, a7])) = some (m.set j (some (.cells false s [a0, a1, a2, a3, a4, a5, x0, a7]))) := if_pos ⟨rfl, Nat.le_of_ble_eq_true rfl, h⟩
theorem pt_8_7_1 (m : Mem) (j s : Nat) (a0 a1 a2 a3 a4 a5 a6 a7 x0 : Value) (h : oneAll [x0] = true) : putIn 1 m j 7 [x0] (some (.cells false s [a0, a1, a2, a3, a4, a5, a6, a7])) = some (m.set j (some (.cells false s [a0, a1, a2, a3, a4, a5, a6, x0]))) := if_pos ⟨rfl, Nat.le_of_ble_eq_true rfl, h⟩
theorem rw_13_0_13 (r : Bool) (s : Nat) (a0 a1 a2 a3 a4 a5 a6 a7 a8 a9 a10 a11 a12 : Value) : rowIn 13 0 (some (.cells r s [a0, a1, a2, a3, a4, a5, a6, a7, a8, a9, a10, a11, a12])) = some (.agg #[a0, a1, a2, a3, a4, a5, a6, a7, a8, a9, a10, a11, a12]) := rfl
theorem rw_13_0_8 (r : Bool) (s : Nat) (a0 a1 a2 a3 a4 a5 a6 a7 a8 a9 a10 a11 a12 : Value) : rowIn 8 0 (some (.cells r s [a0, a1, a2, a3, a4, a5, a6, a7, a8, a9, a10, a11, a12])) = some (.agg #[a0, a1, a2, a3, a4, a5, a6, a7]) := rfl
theorem rw_13_8_5 (r : Bool) (s : Nat) (a0 a1 a2 a3 a4 a5 a6 a7 a8 a9 a10 a11 a12 : Value) : rowIn 5 8 (some (.cells r s [a0, a1, a2, a3, a4, a5, a6, a7, a8, a9, a10, a11, a12])) = some (.agg #[a8, a9, a10, a11, a12]) := rfl
theorem pt_13_0_13 (m : Mem) (j s : Nat) (a0 a1 a2 a3 a4 a5 a6 a7 a8 a9 a10 a11 a12 x0 x1 x2 x3 x4 x5 x6 x7 x8 x9 x10 x11 x12 : Value) (h : oneAll [x0, x1, x2, x3, x4, x5, x6, x7, x8, x9, x10, x11, x12] = true) : putIn 13 m j 0 [x0, x1, x2, x3, x4, x5, x6, x7, x8, x9, x10, x11, x12] (some (.cells false s [a0, a1, a2, a3, a4, a5, a6, a7, a8, a9, a10, a11, a12])) = some (m.set j (some (.cells false s [x0, x1, x2, x3, x4, x5, x6, x7, x8, x9, x10, x11, x12]))) := if_pos ⟨rfl, Nat.le_of_ble_eq_true rfl, h⟩
theorem pt_13_0_8 (m : Mem) (j s : Nat) (a0 a1 a2 a3 a4 a5 a6 a7 a8 a9 a10 a11 a12 x0 x1 x2 x3 x4 x5 x6 x7 : Value) (h : oneAll [x0, x1, x2, x3, x4, x5, x6, x7] = true) : putIn 8 m j 0 [x0, x1, x2, x3, x4, x5, x6, x7] (some (.cells false s [a0, a1, a2, a3, a4, a5, a6, a7, a8, a9, a10, a11, a12])) = some (m.set j (some (.cells false s [x0, x1, x2, x3, x4, x5, x6, x7, a8, a9, a10, a11, a12]))) := if_pos ⟨rfl, Nat.le_of_ble_eq_true rfl, h⟩
theorem pt_13_8_5 (m : Mem) (j s : Nat) (a0 a1 a2 a3 a4 a5 a6 a7 a8 a9 a10 a11 a12 x0 x1 x2 x3 x4 : Value) (h : oneAll [x0, x1, x2, x3, x4] = true) : putIn 5 m j 8 [x0, x1, x2, x3, x4] (some (.cells false s [a0, a1, a2, a3, a4, a5, a6, a7, a8, a9, a10, a11, a12])) = some (m.set j (some (.cells false s [a0, a1, a2, a3, a4, a5, a6, a7, x0, x1, x2, x3, x4]))) := if_pos ⟨rfl, Nat.le_of_ble_eq_true rfl, h⟩
theorem rw_16_0_16 (r : Bool) (s : Nat) (a0 a1 a2 a3 a4 a5 a6 a7 a8 a9 a10 a11 a12 a13 a14 a15 : Value) : rowIn 16 0 (some (.cells r s [a0, a1, a2, a3, a4, a5, a6, a7, a8, a9, a10, a11, a12, a13, a14, a15])) = some (.agg #[a0, a1, a2, a3, a4, a5, a6, a7, a8, a9, a10, a11, a12, a13, a14, a15]) := rfl
theorem pt_16_0_16 (m : Mem) (j s : Nat) (a0 a1 a2 a3 a4 a5 a6 a7 a8 a9 a10 a11 a12 a13 a14 a15 x0 x1 x2 x3 x4 x5 x6 x7 x8 x9 x10 x11 x12 x13 x14 x15 : Value) (h : oneAll [x0, x1, x2, x3, x4, x5, x6, x7, x8, x9, x10, x11, x12, x13, x14, x15] = true) : putIn 16 m j 0 [x0, x1, x2, x3, x4, x5, x6, x7, x8, x9, x10, x11, x12, x13, x14, x15] (some (.cells false s [a0, a1, a2, a3, a4, a5, a6, a7, a8, a9, a10, a11, a12, a13, a14, a15])) = some (m.set j (some (.cells false s [x0, x1, x2, x3, x4, x5, x6, x7, x8, x9, x10, x11, x12, x13, x14, x15]))) := if_pos ⟨rfl, Nat.le_of_ble_eq_true rfl, h⟩
theorem pt_16_2_1 (m : Mem) (j s : Nat) (a0 a1 a2 a3 a4 a5 a6 a7 a8 a9 a10 a11 a12 a13 a14 a15 x0 : Value) (h : oneAll [x0] = true) : putIn 1 m j 2 [x0] (some (.cells false s [a0, a1, a2, a3, a4, a5, a6, a7, a8, a9, a10, a11, a12, a13, a14, a15])) = some (m.set j (some (.cells false s [a0, a1, x0, a3, a4, a5, a6, a7, a8, a9, a10, a11, a12, a13, a14, a15]))) := if_pos ⟨rfl, Nat.le_of_ble_eq_true rfl, h⟩
def zDk := And.intro (And.intro (And.intro (And.intro (And.intro (And.intro (And.intro (@inf_Dsk) (And.intro (@sz_Dsk) (@ld_Dsk))) (And.intro (And.intro (@st_Dsk) (@al_Dsk)) (And.intro (@fa_Dsk0) (@fa_Dsk1)))) (And.intro (And.intro (And.intro (@fa_Dsk2) (@fa_Dsk3)) (And.intro (@inf_Scn) (@sz_Scn))) (And.intro (And.intro (@ld_Scn) (@st_Scn)) (And.intro (@al_Scn) (@fa_Scn0))))) (And.intro (And.intro (And.intro (@fa_Scn1) (And.intro (@fa_Scn2) (@fa_Scn3))) (And.intro (And.intro (@fa_Scn4) (@inf_Sec)) (And.intro (@sz_Sec) (@ld_Sec)))) (And.intro (And.intro (And.intro (@st_Sec) (@al_Sec)) (And.intro (@fa_Sec0) (@fa_Sec1))) (And.intro (And.intro (@fa_Sec2) (@inf_Flt)) (And.intro (@sz_Flt) (@ld_Flt)))))) (And.intro (And.intro (And.intro (And.intro (@st_Flt) (And.intro (@al_Flt) (@fa_Flt0))) (And.intro (And.intro (@fa_Flt1) (@inf_Hdr)) (And.intro (@sz_Hdr) (@ld_Hdr)))) (And.intro (And.intro (And.intro (@st_Hdr) (@al_Hdr)) (And.intro (@fa_Hdr0) (@fa_Hdr1))) (And.intro (And.intro (@fa_Hdr2) (@fa_Hdr3)) (And.intro (@fa_Hdr4) (@fa_Hdr5))))) (And.intro (And.intro (And.intro (@fa_Hdr6) (And.intro (@inf_Ext) (@sz_Ext))) (And.intro (And.intro (@ld_Ext) (@st_Ext)) (And.intro (@al_Ext) (@fa_Ext0)))) (And.intro (And.intro (And.intro (@fa_Ext1) (@inf_Keys)) (And.intro (@sz_Keys) (@ld_Keys))) (And.intro (And.intro (@st_Keys) (@al_Keys)) (And.intro (@fa_Keys0) (@fa_Keys1))))))) (And.intro (And.intro (And.intro (And.intro (And.intro (@fa_Keys2) (And.intro (@inf_Dep) (@sz_Dep))) (And.intro (And.intro (@ld_Dep) (@st_Dep)) (And.intro (@al_Dep) (@fa_Dep0)))) (And.intro (And.intro (And.intro (@fa_Dep1) (@fa_Dep2)) (And.intro (@fa_Dep3) (@fa_Dep4))) (And.intro (And.intro (@fa_Dep5) (@inf_Set)) (And.intro (@sz_Set) (@ld_Set))))) (And.intro (And.intro (And.intro (@st_Set) (And.intro (@al_Set) (@fa_Set0))) (And.intro (And.intro (@fa_Set1) (@inf_Rec)) (And.intro (@sz_Rec) (@ld_Rec)))) (And.intro (And.intro (And.intro (@st_Rec) (@al_Rec)) (And.intro (@fa_Rec0) (@fa_Rec1))) (And.intro (And.intro (@inf_A8) (@sz_A8)) (And.intro (@ld_A8) (@st_A8)))))) (And.intro (And.intro (And.intro (And.intro (@al_A8) (And.intro (@inf_A4) (@sz_A4))) (And.intro (And.intro (@ld_A4) (@st_A4)) (And.intro (@al_A4) (@inf_Str)))) (And.intro (And.intro (And.intro (@sz_Str) (@ld_Str)) (And.intro (@st_Str) (@al_Str))) (And.intro (And.intro (@inf_Int) (@sz_Int)) (And.intro (@ld_Int) (@st_Int))))) (And.intro (And.intro (And.intro (@al_Int) (And.intro (@inf_Bool) (@sz_Bool))) (And.intro (And.intro (@ld_Bool) (@st_Bool)) (And.intro (@al_Bool) (@inf_SS)))) (And.intro (And.intro (And.intro (@sz_SS) (@ld_SS)) (And.intro (@st_SS) (@al_SS))) (And.intro (And.intro (@inf_Err) (@sz_Err)) (And.intro (@ld_Err) (@st_Err)))))))) (And.intro (And.intro (And.intro (And.intro (And.intro (And.intro (@al_Err) (And.intro (@inf_Map) (@sz_Map))) (And.intro (And.intro (@ld_Map) (@st_Map)) (And.intro (@al_Map) (@inf_PD)))) (And.intro (And.intro (And.intro (@sz_PD) (@ld_PD)) (And.intro (@st_PD) (@al_PD))) (And.intro (And.intro (@inf_Secs) (@sz_Secs)) (And.intro (@ld_Secs) (@st_Secs))))) (And.intro (And.intro (And.intro (@al_Secs) (And.intro (@inf_Flts) (@sz_Flts))) (And.intro (And.intro (@ld_Flts) (@st_Flts)) (And.intro (@al_Flts) (@inf_Exts)))) (And.intro (And.intro (And.intro (@sz_Exts) (@ld_Exts)) (And.intro (@st_Exts) (@al_Exts))) (And.intro (And.intro (Tryz.underlying9) (Tryz.underlying3)) (And.intro (Tryz.underlying4) (Tryz.underlying5)))))) (And.intro (And.intro (And.intro (And.intro (Tryz.underlying80) (And.intro (Tryz.underlying121) (Tryz.underlying58))) (And.intro (And.intro (Tryz.underlying33) (Tryz.underlying61)) (And.intro (Tryz.underlying49) (Tryz.underlying32)))) (And.intro (And.intro (And.intro (Tryz.underlying23) (Tryz.underlying36)) (And.intro (Tryz.underlying69) (Tryz.underlying63))) (And.intro (And.intro (Tryz.underlying71) (Tryz.underlying27)) (And.intro (Tryz.underlying176) (Tryz.underlying73))))) (And.intro (And.intro (And.intro (Tryz.underlying75) (And.intro (Tryz.underlying67) (Tryz.underlying112))) (And.intro (And.intro (Tryz.underlying83) (Tryz.underlying85)) (And.intro (Tryz.underlying110) (Tryz.underlying108)))) (And.intro (And.intro (And.intro (@cl_int) (@oc_int)) (And.intro (@cl_string) (@oc_string))) (And.intro (And.intro (@cl_bool) (@oc_bool)) (And.intro (@cl_sl) (@oc_sl))))))) (And.intro (And.intro (And.intro (And.intro (And.intro (@cl_pt) (And.intro (@oc_pt) (@cl_mp))) (And.intro (And.intro (@oc_mp) (@oa_cons)) (And.intro (@oa_nil) (@g_nt)))) (And.intro (And.intro (And.intro (@g_nf) (@undef_eq)) (And.intro (@ta_v) (@Bool.and_self))) (And.intro (And.intro (@Bool.true_and) (@agg_cells)) (And.intro (@setL.eq_1) (@setL.eq_2))))) (And.intro (And.intro (And.intro (@rw_1_0_1) (And.intro (@pt_1_0_1) (@rw_2_0_2))) (And.intro (And.intro (@pt_2_0_2) (@pt_2_0_1)) (And.intro (@pt_2_1_1) (@rw_3_0_3)))) (And.intro (And.intro (And.intro (@pt_3_0_3) (@pt_3_0_1)) (And.intro (@pt_3_1_1) (@pt_3_2_1))) (And.intro (And.intro (@rw_4_0_4) (@pt_4_0_4)) (And.intro (@pt_4_0_1) (@pt_4_1_1)))))) (And.intro (And.intro (And.intro (And.intro (@pt_4_2_1) (And.intro (@pt_4_3_1) (@rw_5_0_5))) (And.intro (And.intro (@pt_5_0_5) (@pt_5_0_1)) (And.intro (@pt_5_1_1) (@pt_5_2_1)))) (And.intro (And.intro (And.intro (@pt_5_3_1) (@pt_5_4_1)) (And.intro (@rw_8_0_8) (@rw_8_0_7))) (And.intro (And.intro (@pt_8_0_8) (@pt_8_0_7)) (And.intro (@pt_8_0_1) (@pt_8_1_1))))) (And.intro (And.intro (And.intro (@pt_8_2_1) (And.intro (@pt_8_3_1) (@pt_8_4_1))) (And.intro (And.intro (@pt_8_5_1) (@pt_8_6_1)) (And.intro (@pt_8_7_1) (@rw_13_0_13)))) (And.intro (And.intro (And.intro (@rw_13_0_8) (@rw_13_8_5)) (And.intro (@pt_13_0_13) (@pt_13_0_8))) (And.intro (And.intro (@pt_13_8_5) (@rw_16_0_16)) (And.intro (@pt_16_0_16) (@pt_16_2_1))))))))
end Go.Proofs.YtmnebimijlnlkaaGreatDoor
namespace Go.Proofs.YtmnebimijlnlkaaGreatDoor
open Go.RowKit Abs
abbrev LastL := List (Nat × List UInt8 × Nat)
structure Dsk where
  old : List (List UInt8)
  last : LastL
  clock : Nat
  fuse : Int
  dead : Bool
def lastOf (L : LastL) (i : Nat) : Option (List UInt8) := (L.find? fun x => x.1 == i).map (·.2.1)
def ents (L : LastL) : List MapEntry := L.map fun x => ⟨.int .i64 (x.1 : Nat), .string (str x.2.1), x.2.2⟩
def putL (L : LastL) (i : Nat) (s : List UInt8) (c : Nat) : LastL := match lastOf L i with
  | some _ => L.map fun x => if x.1 = i then (i, s, x.2.2) else x
  | none => L ++ [(i, s, c)]
def putC (L : LastL) (i c : Nat) : Nat := match lastOf L i with | some _ => c | none => c + 1
structure Dsk.Ok (d : Dsk) : Prop where
  n : d.old.length ≤ 1024
  pos : 0 < d.old.length
  size : ∀ s ∈ d.old, s.length = 256
  keys : (d.last.map (·.1)).Nodup
  born : (d.last.map (·.2.2)).Nodup
  clock : ∀ x ∈ d.last, x.2.2 < d.clock
  within : ∀ x ∈ d.last, x.1 < d.old.length ∧ x.2.1.length = 256
  fuse : -1 ≤ d.fuse ∧ d.fuse ≤ 9223372036854775807
  old_big : True
def Dsk.may (d : Dsk) (i : Int) : Int := if d.dead = true then 7 else if i < 0 ∨ (d.old.length : Int) ≤ i then 10 else 0
def Dsk.sector (d : Dsk) (i : Nat) : List UInt8 := (lastOf d.last i).getD ((d.old[i]?).getD [])
def Dsk.read (d : Dsk) (i : Int) : List UInt8 × Int := if d.may i = 0 then (d.sector i.toNat, 0) else ([], d.may i)
def Dsk.burnt (d : Dsk) : Dsk := if d.fuse = 0 then { d with dead := true } else { d with fuse := max (d.fuse - 1) (-1) }
def filled (s : List UInt8) : List UInt8 := s ++ List.replicate (256 - s.length) 0
def Dsk.put (d : Dsk) (i : Nat) (s : List UInt8) : Dsk := { d with last := putL d.last i s d.clock, clock := putC d.last i d.clock }
def Dsk.write (d : Dsk) (i : Int) (s : List UInt8) : Dsk × Int :=
  if d.may i ≠ 0 then (d, d.may i) else if 256 < s.length then (d, 1) else if d.fuse = 0 then (d.burnt, 7) else (d.burnt.put i.toNat (filled s), 0)
def syncV (old : List (List UInt8)) (L : LastL) (seen : List Nat) : List (List UInt8) :=
  old.mapIdx fun i o => match L.find? fun x => x.1 == i && seen.contains x.2.2 with | some x => x.2.1 | none => o
def Dsk.synced (d : Dsk) : Dsk := { d with old := d.old.mapIdx fun i o => (lastOf d.last i).getD o, last := [] }
def Dsk.sync (d : Dsk) : Dsk × Int := if d.may 0 ≠ 0 then (d, d.may 0) else if d.fuse = 0 then (d.burnt, 7) else (d.burnt.synced, 0)
theorem find_congr {α : Type} {p q : α → Bool} : ∀ {l : List α}, (∀ x ∈ l, p x = q x) → l.find? p = l.find? q
  | [], _ => rfl
  | a :: l, h => by
    simp only [List.find?_cons, h a List.mem_cons_self, find_congr fun x hx => h x (List.mem_cons_of_mem _ hx)]
theorem lastOf_none {L : LastL} {i : Nat} (h : lastOf L i = none) : ∀ x ∈ L, x.1 ≠ i := by
  unfold lastOf at h
  rw [Option.map_eq_none_iff, List.find?_eq_none] at h
  exact fun x hx e => h x hx (by simpa using e)
theorem lastOf_some {L : LastL} {i : Nat} {s : List UInt8} (h : lastOf L i = some s) : ∃ b, (i, s, b) ∈ L := by
  unfold lastOf at h
  rw [Option.map_eq_some_iff] at h
  obtain ⟨x, hx, rfl⟩ := h
  have h1 := List.mem_of_find?_eq_some hx
  have h2 := List.find?_some hx
  simp only [beq_iff_eq] at h2
  exact ⟨x.2.2, by rw [← h2]; exact h1⟩
theorem nodup_fst {L : LastL} (h : (L.map (·.1)).Nodup) {x y : Nat × List UInt8 × Nat} (hx : x ∈ L) (hy : y ∈ L) (e : x.1 = y.1) : x = y := by
  induction L with
  | nil => cases hx
  | cons a L ih =>
    rw [List.map_cons, List.nodup_cons] at h
    rcases List.mem_cons.1 hx with rfl | hx' <;> rcases List.mem_cons.1 hy with rfl | hy'
    · rfl
    · exact absurd (List.mem_map.2 ⟨y, hy', e.symm⟩) h.1
    · exact absurd (List.mem_map.2 ⟨x, hx', e⟩) h.1
    · exact ih h.2 hx' hy'
theorem ents_findNow (i : Nat) : ∀ (L : LastL) (k : Nat), (lastOf L i = none ∧ Instr.findNow (.int .i64) (.int .i64 (i : Nat)) (ents L) k = some none) ∨
    ∃ j x, lastOf L i = some x.2.1 ∧ x.1 = i ∧ L[j]? = some x ∧ Instr.findNow (.int .i64) (.int .i64 (i : Nat)) (ents L) k = some (some (k + j, .string (str x.2.1)))
  | [], k => .inl ⟨rfl, rfl⟩
  | y :: L, k => by
    by_cases e : y.1 = i
    · right
      refine ⟨0, y, ?_, e, rfl, ?_⟩
      · unfold lastOf; rw [List.find?_cons_of_pos (by simpa using e)]; rfl
      · simp [ents, Instr.findNow, Instr.sameNow, e]
    · have h1 : lastOf (y :: L) i = lastOf L i := by unfold lastOf; rw [List.find?_cons_of_neg (by simpa using e)]
      have h2 : Instr.findNow (.int .i64) (.int .i64 (i : Nat)) (ents (y :: L)) k = Instr.findNow (.int .i64) (.int .i64 (i : Nat)) (ents L) (k + 1) := by
        have e' : ((i : Int) == (y.1 : Int)) = false := by simp; omega
        simp only [ents, List.map_cons, Instr.findNow, Instr.sameNow, if_true, e']
      rw [h1, h2]
      rcases ents_findNow i L (k + 1) with h | ⟨j, x, h3, h4, h5, h6⟩
      · exact .inl h
      · exact .inr ⟨j + 1, x, h3, h4, by simpa using h5, by rw [h6]; congr 3; omega⟩
theorem kt_map : Tryz.prog.underlying 61 = some (.map 3 9) := Tryz.underlying61
theorem look_dsk {get : Nat → Option Blk} {q : Nat} {r : Bool} {L : LastL} {c : Nat} (h : get q = some (.kv r (ents L) c)) (i : Nat) :
    aLookup Tryz.prog get 61 (.map (some q)) (.int .i64 (i : Nat)) true = some (.tuple #[.string (str ((lastOf L i).getD [])), .bool (lastOf L i).isSome]) := by
  have hi : Tryz.prog.underlying 3 = some (.int .i64) := Tryz.underlying3
  have hs : Tryz.prog.info? 9 = some Tryz.t9 := inf_Str
  have hz : Tryz.t9.zero = some (.string ⟨#[]⟩) := rfl
  unfold aLookup aFind aKV
  rw [kt_map]
  simp only [hs, hz, flat, if_true, h, hi, aKey, decide_true]
  rcases ents_findNow i L 0 with ⟨h1, h2⟩ | ⟨j, x, h1, _, _, h2⟩
  · rw [h1, h2]; rfl
  · rw [h1, h2]; rfl
theorem upd_dsk {m : Mem} {q : Nat} {L : LastL} {c : Nat} (h : m.get q = some (.kv false (ents L) c)) (hk : (L.map (·.1)).Nodup) (i : Nat) (s : List UInt8) :
    aMapUpdate Tryz.prog m 61 (.map (some q)) (.int .i64 (i : Nat)) (.string (str s)) = some (m.set q (some (.kv false (ents (putL L i s c)) (putC L i c)))) := by
  have hi : Tryz.prog.underlying 3 = some (.int .i64) := Tryz.underlying3
  unfold aMapUpdate aFind
  rw [kt_map]
  simp only [h, flat, if_true, hi, aKey, decide_true]
  rcases ents_findNow i L 0 with ⟨h1, h2⟩ | ⟨j, x, h1, hx, hj, h2⟩
  · rw [h2]
    simp only [putL, putC, h1]
    simp [ents]
  · rw [h2]
    simp only [putL, putC, h1, Nat.zero_add]
    refine congrArg (fun l => some (m.set q (some (Blk.kv false l c)))) ?_
    apply List.ext_getElem?
    intro k
    unfold ents
    rw [List.getElem?_modify]
    simp only [List.getElem?_map]
    cases hg : L[k]? with
    | none => simp
    | some y =>
      by_cases e : j = k
      · subst e
        rw [hj] at hg; cases hg
        simp [hx]
      · have : y.1 ≠ i := fun e2 => by
          obtain ⟨hxl, hxe⟩ := List.getElem?_eq_some_iff.1 hj
          obtain ⟨hyl, hye⟩ := List.getElem?_eq_some_iff.1 hg
          have hp := List.pairwise_iff_getElem.1 hk
          rcases Nat.lt_trichotomy j k with hlt | he | hgt
          · exact hp j k (by simpa using hxl) (by simpa using hyl) hlt (by simp [hxe, hye, hx, e2])
          · exact e he
          · exact hp k j (by simpa using hyl) (by simpa using hxl) hgt (by simp [hxe, hye, hx, e2])
        simp [e, this]
theorem clear_dsk {m : Mem} {q : Nat} {es : List MapEntry} {c : Nat} (h : m.get q = some (.kv false es c)) : aClear Tryz.prog m 61 (.map (some q)) = some (m.set q (some (.kv false (ents []) c))) := by
  unfold aClear
  rw [kt_map]
  simp only [h]
  rfl
theorem range_dsk {m : Mem} {q : Nat} {r : Bool} {es : List MapEntry} {c : Nat} (h : m.get q = some (.kv r es c)) : aRange Tryz.prog m 61 (.map (some q)) = some (.pointer (some ⟨m.size, 0, none⟩), m.push (.it false q c [] c)) := by
  unfold aRange
  rw [kt_map]
  simp only [h]
theorem putL_map (L : LastL) (i : Nat) (s : List UInt8) (c : Nat) : ((putL L i s c).map (·.1) = L.map (·.1) ∧ (putL L i s c).map (·.2.2) = L.map (·.2.2) ∧ putC L i c = c) ∨ (lastOf L i = none ∧ putL L i s c = L ++ [(i, s, c)] ∧ putC L i c = c + 1) := by
  unfold putL putC
  cases h : lastOf L i with
  | none => exact .inr ⟨rfl, rfl, rfl⟩
  | some t =>
    left
    refine ⟨?_, ?_, rfl⟩ <;> simp only [List.map_map] <;> apply List.map_congr_left <;> intro x _ <;> simp only [Function.comp] <;> split <;> simp_all
theorem putL_mem {L : LastL} {i : Nat} {s : List UInt8} {c : Nat} {x : Nat × List UInt8 × Nat} (h : x ∈ putL L i s c) : x ∈ L ∨ (x.1 = i ∧ x.2.1 = s ∧ ((x.2.2 = c ∧ lastOf L i = none) ∨ ∃ t, (i, t, x.2.2) ∈ L)) := by
  unfold putL at h
  split at h
  · rw [List.mem_map] at h
    obtain ⟨y, hy, rfl⟩ := h
    split
    · rename_i e
      exact .inr ⟨rfl, rfl, .inr ⟨y.2.1, by rw [← e]; exact hy⟩⟩
    · exact .inl hy
  · rename_i hn
    rw [List.mem_append, List.mem_singleton] at h
    rcases h with h | rfl
    · exact .inl h
    · exact .inr ⟨rfl, rfl, .inl ⟨rfl, hn⟩⟩
theorem Dsk.Ok.burnt {d : Dsk} (h : d.Ok) : d.burnt.Ok := by
  unfold Dsk.burnt
  split
  · exact ⟨h.n, h.pos, h.size, h.keys, h.born, h.clock, h.within, h.fuse, trivial⟩
  · have hf := h.fuse
    exact ⟨h.n, h.pos, h.size, h.keys, h.born, h.clock, h.within, by simp only; omega, trivial⟩
theorem burnt_old (d : Dsk) : d.burnt.old = d.old := by unfold Dsk.burnt; split <;> rfl
theorem burnt_last (d : Dsk) : d.burnt.last = d.last := by unfold Dsk.burnt; split <;> rfl
theorem burnt_clock (d : Dsk) : d.burnt.clock = d.clock := by unfold Dsk.burnt; split <;> rfl
theorem Dsk.Ok.put {d : Dsk} (h : d.Ok) {i : Nat} (hi : i < d.old.length) {s : List UInt8} (hs : s.length = 256) : (d.put i s).Ok := by
  unfold Dsk.put
  refine ⟨h.n, h.pos, h.size, ?_, ?_, fun x hx => ?_, fun x hx => ?_, h.fuse, trivial⟩
  · rcases putL_map d.last i s d.clock with ⟨h1, _, _⟩ | ⟨h1, h2, _⟩
    · simp only [h1]; exact h.keys
    · simp only [h2, List.map_append, List.map_cons, List.map_nil]
      rw [List.nodup_append]
      refine ⟨h.keys, by simp, fun a ha b hb => ?_⟩
      rw [List.mem_singleton] at hb
      obtain ⟨x, hx, rfl⟩ := List.mem_map.1 ha
      subst hb
      exact lastOf_none h1 x hx
  · rcases putL_map d.last i s d.clock with ⟨_, h1, _⟩ | ⟨h1, h2, _⟩
    · simp only [h1]; exact h.born
    · simp only [h2, List.map_append, List.map_cons, List.map_nil]
      rw [List.nodup_append]
      refine ⟨h.born, by simp, fun a ha b hb => ?_⟩
      rw [List.mem_singleton] at hb
      obtain ⟨x, hx, rfl⟩ := List.mem_map.1 ha
      subst hb
      have := h.clock x hx
      omega
  · simp only at hx ⊢
    rcases putL_map d.last i s d.clock with ⟨_, _, h1⟩ | ⟨h1, _, h2⟩
    · rw [h1]
      rcases putL_mem hx with hx | ⟨_, _, ⟨h3, h4⟩ | ⟨t, ht⟩⟩
      · exact h.clock x hx
      · unfold putC at h1; rw [h4] at h1; simp at h1
      · exact h.clock (i, t, x.2.2) ht
    · rw [h2]
      rcases putL_mem hx with hx | ⟨_, _, ⟨h3, h4⟩ | ⟨t, ht⟩⟩
      · have := h.clock x hx; omega
      · omega
      · have := h.clock (i, t, x.2.2) ht; simp only at this; omega
  · simp only at hx ⊢
    rcases putL_mem hx with hx | ⟨h1, h2, _⟩
    · exact h.within x hx
    · rw [h1, h2]; exact ⟨hi, hs⟩
theorem Dsk.Ok.sector {d : Dsk} (h : d.Ok) {i : Nat} (hi : i < d.old.length) : (d.sector i).length = 256 := by
  unfold Dsk.sector
  cases hl : lastOf d.last i with
  | some s =>
    obtain ⟨b, hb⟩ := lastOf_some hl
    exact (h.within _ hb).2
  | none =>
    rw [List.getElem?_eq_getElem hi]
    exact h.size _ (List.getElem_mem hi)
theorem filled_len {s : List UInt8} (h : s.length ≤ 256) : (filled s).length = 256 := by unfold filled; simp; omega
theorem Dsk.Ok.synced {d : Dsk} (h : d.Ok) : d.synced.Ok := by
  unfold Dsk.synced
  refine ⟨by simpa using h.n, by simpa using h.pos, fun s hs => ?_, by simp, by simp, fun x hx => by simp at hx, fun x hx => by simp at hx, h.fuse, trivial⟩
  simp only at hs
  rw [List.mem_mapIdx] at hs
  obtain ⟨i, hi, rfl⟩ := hs
  have := h.sector hi
  unfold Dsk.sector at this
  rw [List.getElem?_eq_getElem hi] at this
  exact this
theorem syncV_nil (old : List (List UInt8)) (L : LastL) : syncV old L [] = old := by
  unfold syncV
  have : ∀ i : Nat, L.find? (fun x => x.1 == i && ([] : List Nat).contains x.2.2) = none := fun i => by rw [List.find?_eq_none]; simp
  simp only [this]
  apply List.ext_getElem?
  intro i
  simp
theorem syncV_len (old : List (List UInt8)) (L : LastL) (seen : List Nat) : (syncV old L seen).length = old.length := by unfold syncV; simp
theorem syncV_step {old : List (List UInt8)} {L : LastL} {seen : List Nat} (hk : (L.map (·.1)).Nodup) {x : Nat × List UInt8 × Nat} (hx : x ∈ L) : (syncV old L seen).set x.1 x.2.1 = syncV old L (seen ++ [x.2.2]) ∨ ∃ y ∈ L, y ≠ x ∧ y.2.2 = x.2.2 := by
  by_cases hd : ∃ y ∈ L, y ≠ x ∧ y.2.2 = x.2.2
  · exact .inr hd
  · left
    apply List.ext_getElem?
    intro i
    rw [List.getElem?_set]
    unfold syncV
    simp only [List.length_mapIdx, List.getElem?_mapIdx]
    cases ho : old[i]? with
    | none =>
      have : ¬ i < old.length := by have := List.getElem?_eq_none_iff.1 ho; omega
      by_cases e : x.1 = i
      · simp [e, this]
      · simp [e]
    | some o =>
      have hlt : i < old.length := (List.getElem?_eq_some_iff.1 ho).1
      by_cases e : x.1 = i
      · have hf : L.find? (fun y => y.1 == i && (seen ++ [x.2.2]).contains y.2.2) = some x := by
          have hex : L.find? (fun y => y.1 == i && (seen ++ [x.2.2]).contains y.2.2) ≠ none := by
            rw [Ne, List.find?_eq_none]
            intro h
            exact h x hx (by simp [e])
          obtain ⟨y, hy⟩ := Option.ne_none_iff_exists'.1 hex
          have h1 := List.mem_of_find?_eq_some hy
          have h2 := List.find?_some hy
          simp only [Bool.and_eq_true, beq_iff_eq] at h2
          rw [hy, nodup_fst hk h1 hx (by rw [h2.1, e])]
        rw [if_pos e, if_pos (by rw [e]; exact hlt), Option.map_some, hf]
      · simp only [e, if_false, Option.map_some]
        congr 1
        have : L.find? (fun y => y.1 == i && seen.contains y.2.2) = L.find? (fun y => y.1 == i && (seen ++ [x.2.2]).contains y.2.2) := by
          apply find_congr
          intro y hy
          by_cases e2 : y.1 = i
          · have : y.2.2 ≠ x.2.2 := fun h => hd ⟨y, hy, fun h' => e (by rw [← h']; exact e2), h⟩
            simp [this]
          · have : (y.1 == i) = false := by simpa using e2
            rw [this]; rfl
        rw [this]
theorem syncV_all {old : List (List UInt8)} {L : LastL} {seen : List Nat} (h : aLeft (ents L) seen = []) : syncV old L seen = old.mapIdx fun i o => (lastOf L i).getD o := by
  have hall : ∀ x ∈ L, seen.contains x.2.2 = true := fun x hx => by
    unfold aLeft at h
    rw [List.filter_eq_nil_iff] at h
    have := h ⟨.int .i64 (x.1 : Nat), .string (str x.2.1), x.2.2⟩ (List.mem_map.2 ⟨x, hx, rfl⟩)
    simpa using this
  unfold syncV
  apply List.ext_getElem?
  intro i
  simp only [List.getElem?_mapIdx]
  cases ho : old[i]? with
  | none => rfl
  | some o =>
    simp only [Option.map_some]
    congr 1
    have : L.find? (fun y => y.1 == i && seen.contains y.2.2) = L.find? (fun y => y.1 == i) := by
      apply find_congr
      intro y hy
      rw [hall y hy, Bool.and_true]
    rw [this]
    unfold lastOf
    cases L.find? (fun y => y.1 == i) <;> rfl
theorem aLeft_mem {L : LastL} {seen : List Nat} {e : MapEntry} (h : e ∈ aLeft (ents L) seen) : ∃ x ∈ L, e = ⟨.int .i64 (x.1 : Nat), .string (str x.2.1), x.2.2⟩ ∧ seen.contains x.2.2 = false := by
  unfold aLeft at h
  rw [List.mem_filter] at h
  obtain ⟨h1, h2⟩ := h
  obtain ⟨x, hx, rfl⟩ := List.mem_map.1 h1
  exact ⟨x, hx, rfl, by simpa using h2⟩
theorem aLeft_less {L : LastL} {seen : List Nat} {e : MapEntry} (h : e ∈ aLeft (ents L) seen) : (aLeft (ents L) (seen ++ [e.born])).length < (aLeft (ents L) seen).length := by
  have : aLeft (ents L) (seen ++ [e.born]) = (aLeft (ents L) seen).filter fun x => !(x.born == e.born) := by
    unfold aLeft
    rw [List.filter_filter]
    apply List.filter_congr
    intro x _
    cases h1 : seen.contains x.born <;> cases h2 : (x.born == e.born) <;> simp_all
  rw [this]
  exact List.length_filter_lt_length_iff_exists.2 ⟨e, h, by simp⟩
theorem ents_find {L : LastL} (hb : (L.map (·.2.2)).Nodup) {x : Nat × List UInt8 × Nat} (hx : x ∈ L) : (ents L).find? (fun e => e.born == x.2.2) = some ⟨.int .i64 (x.1 : Nat), .string (str x.2.1), x.2.2⟩ := by
  induction L with
  | nil => cases hx
  | cons a L ih =>
    rw [List.map_cons, List.nodup_cons] at hb
    unfold ents
    rw [List.map_cons]
    rcases List.mem_cons.1 hx with rfl | hx'
    · rw [List.find?_cons_of_pos (by simp)]
    · have : a.2.2 ≠ x.2.2 := fun e => hb.1 (List.mem_map.2 ⟨x, hx', e.symm⟩)
      rw [List.find?_cons_of_neg (by simpa using this)]
      exact ih hb.2 hx'
end Go.Proofs.YtmnebimijlnlkaaGreatDoor
namespace Go.Proofs.YtmnebimijlnlkaaGreatDoor
open Go.RowKit Abs
def Keeps (k : Nat) (M M' : Mem) : Prop := (∀ b x, b < k → M.get b = some x → M'.get b = some x) ∧ ∀ b s cs, M.get b = some (.cells true s cs) → M'.get b = some (.cells true s cs)
theorem Keeps.refl (k : Nat) (M : Mem) : Keeps k M M := ⟨fun _ _ _ h => h, fun _ _ _ h => h⟩
theorem Keeps.trans {k : Nat} {A B C : Mem} (h : Keeps k A B) (g : Keeps k B C) : Keeps k A C := ⟨fun b x hb hx => g.1 b x hb (h.1 b x hb hx), fun b s cs hb => g.2 b s cs (h.2 b s cs hb)⟩
theorem get_live {M : Mem} {b : Nat} {x : Blk} (h : M.get b = some x) : b < M.size := Mem.get_lt h
theorem Keeps.push (k : Nat) (M : Mem) (x : Blk) : Keeps k M (M.push x) := ⟨fun b y _ h => by rw [Mem.get_push_old (get_live h)]; exact h, fun b s cs h => by rw [Mem.get_push_old (get_live h)]; exact h⟩
theorem Keeps.set {k : Nat} {M : Mem} {b : Nat} {s : Nat} {cs : List Value} (hk : k ≤ b) (hb : M.get b = some (.cells false s cs)) (o : Option Blk) : Keeps k M (M.set b o) :=
  ⟨fun c y hc h => by rw [Mem.get_set_ne (by omega)]; exact h, fun c s' cs' h => by rw [Mem.get_set_ne (fun e => by subst e; rw [hb] at h; cases h)]; exact h⟩
theorem Keeps.ext (k : Nat) (M : Mem) (l : List (Option (Option Blk))) : Keeps k M (ext M l) := ⟨fun b y _ h => ext_get_old l h, fun b s cs h => ext_get_old l h⟩
end Go.Proofs.YtmnebimijlnlkaaGreatDoor
namespace Go.Proofs.YtmnebimijlnlkaaGreatDoor.Abs
open Go
theorem wri {x : Int} (h0 : -9223372036854775808 ≤ x) (h1 : x ≤ 9223372036854775807) : IntKind.i64.wrap x = x := by
  unfold IntKind.wrap; simp [IntKind.bits, IntKind.signed]; omega
theorem vMax_int (a b : Int) : vMin false [.int .i64 a, .int .i64 b] = some (.int .i64 (max a b)) := by
  simp only [vMin, evMin, aMin2]
  by_cases h : b > a
  · simp [h]; omega
  · simp [h]; omega
theorem vMin_int (a b : Int) : vMin true [.int .i64 a, .int .i64 b] = some (.int .i64 (min a b)) := by
  simp only [vMin, evMin, aMin2]
  by_cases h : b < a
  · simp [h]; omega
  · simp [h]; omega
end Go.Proofs.YtmnebimijlnlkaaGreatDoor.Abs
namespace Go.Proofs.YtmnebimijlnlkaaGreatDoor
open Go.RowKit Abs
def dskC (q g : Nat) (d : Dsk) : List Value := [.slice (some ⟨g, 0, none⟩) d.old.length d.old.length, .map (some q), .int .i64 d.fuse, .bool d.dead]
structure DskAt (M : Mem) (p q g : Nat) (d : Dsk) : Prop where
  ok : d.Ok
  row : ∃ s, M.get p = some (.cells false s (dskC q g d))
  kv : M.get q = some (.kv false (ents d.last) d.clock)
  old : M.get g = some (.cells false 1 (d.old.map fun s => .string (str s)))
  pq : p ≠ q
  pg : p ≠ g
  qg : q ≠ g
def Only (l : List Nat) (M M' : Mem) : Prop := ∀ b x, b ∉ l → M.get b = some x → M'.get b = some x
theorem Only.refl (l : List Nat) (M : Mem) : Only l M M := fun _ _ _ h => h
theorem Only.trans {l : List Nat} {A B C : Mem} (h : Only l A B) (k : Only l B C) : Only l A C := fun b x hb hx => k b x hb (h b x hb hx)
theorem Only.set {l : List Nat} {M : Mem} {b : Nat} (hb : b ∈ l) (o : Option Blk) : Only l M (M.set b o) := fun c x hc hx => by
  rw [Mem.get_set_ne (fun e => hc (by rw [← e]; exact hb))]; exact hx
theorem Only.push (l : List Nat) (M : Mem) (x : Blk) : Only l M (M.push x) := fun b y _ hy => by rw [Mem.get_push_old (get_live hy)]; exact hy
theorem Only.mono {l l' : List Nat} {A B : Mem} (h : Only l A B) (hl : ∀ b ∈ l, b ∈ l') : Only l' A B := fun b x hb hx => h b x (fun e => hb (hl b e)) hx
theorem Only.keep {l l' : List Nat} {A B : Mem} (h : Only l A B) (hl : ∀ b ∈ l, b ∈ l' ∨ A.get b = none) : Only l' A B := fun b x hb hx => h b x (fun e => by
  rcases hl b e with h1 | h1
  · exact hb h1
  · rw [h1] at hx; cases hx) hx
theorem DskAt.same {M M' : Mem} {p q g : Nat} {d : Dsk} (h : DskAt M p q g d) (hs : ∀ b x, M.get b = some x → M'.get b = some x) : DskAt M' p q g d :=
  ⟨h.ok, h.row.imp fun _ hr => hs _ _ hr, hs _ _ h.kv, hs _ _ h.old, h.pq, h.pg, h.qg⟩
theorem DskAt.only {M M' : Mem} {p q g : Nat} {d : Dsk} (h : DskAt M p q g d) {l : List Nat} (hs : Only l M M') (hp : p ∉ l) (hq : q ∉ l) (hg : g ∉ l) : DskAt M' p q g d :=
  ⟨h.ok, h.row.imp fun _ hr => hs _ _ hp hr, hs _ _ hq h.kv, hs _ _ hg h.old, h.pq, h.pg, h.qg⟩
theorem DskAt.turn {M : Mem} {p q g : Nat} {d d' : Dsk} (h : DskAt M p q g d) (hok : d'.Ok) (ho : d'.old = d.old) (hl : d'.last = d.last) (hc : d'.clock = d.clock) (s : Nat) : DskAt (M.set p (some (.cells false s (dskC q g d')))) p q g d' := by
  obtain ⟨s0, hr⟩ := h.row
  exact ⟨hok, ⟨s, Mem.get_set_same hr _⟩, by rw [Mem.get_set_ne h.pq, hl, hc]; exact h.kv, by rw [Mem.get_set_ne h.pg, ho]; exact h.old, h.pq, h.pg, h.qg⟩
theorem DskAt.kvTurn {M : Mem} {p q g : Nat} {d : Dsk} (h : DskAt M p q g d) {L : LastL} {c : Nat} (hok : ({ d with last := L, clock := c } : Dsk).Ok) : DskAt (M.set q (some (.kv false (ents L) c))) p q g { d with last := L, clock := c } := by
  obtain ⟨s0, hr⟩ := h.row
  exact ⟨hok, ⟨s0, by rw [Mem.get_set_ne (Ne.symm h.pq)]; exact hr⟩, Mem.get_set_same h.kv _, by rw [Mem.get_set_ne h.qg]; exact h.old, h.pq, h.pg, h.qg⟩
def dp (p : Nat) : Value := .pointer (some ⟨p, 0, none⟩)
theorem pd_eql (p o : Nat) : aBin Tryz.prog .eql 32 true (.pointer (some ⟨p, o, none⟩)) (.pointer none) = some (.bool false) := by kernel_rfl
theorem pd_neq (p o : Nat) : aBin Tryz.prog .neq 32 true (.pointer (some ⟨p, o, none⟩)) (.pointer none) = some (.bool true) := by kernel_rfl
theorem pd_eql0 : aBin Tryz.prog .eql 32 true (.pointer none) (.pointer none) = some (.bool true) := by kernel_rfl
theorem pd_neq0 : aBin Tryz.prog .neq 32 true (.pointer none) (.pointer none) = some (.bool false) := by kernel_rfl
set_option maxRecDepth 100000 in
set_option maxHeartbeats 2000000 in
theorem may_spec (M : Mem) (p q g : Nat) (d : Dsk) (hd : DskAt M p q g d) (i : Int) :
    Abs.Spec Tryz.prog 34 [dp p, .int .i64 i] M fun u M' => u = .int .i64 (d.may i) ∧ M' = M := by
  refine Abs.Spec.walkM Tryz.func34 (by rfl) _ Tryz.results34 _ Tryz.ntmps34 (by simp [dp]) ?_
  intro hc hx k
  unfold dp
  obtain ⟨s, hr⟩ := hd.row
  unfold dskC at hr
  refine CW_seq (CW_region ?_)
  simp only [zZ, reduceIte, Nat.reduceLT, Int.reduceToNat, Int.reduceLE, Int.reduceEq, Int.reduceLT, Nat.reduceEqDiff, Nat.reduceAdd, zDk, pd_eql, pd_neq, pd_eql0, pd_neq0]
  refine CW_seq (CW_block (CW_seq (CW_region ?_)))
  simp only [zZ, reduceIte, Nat.reduceLT, Int.reduceToNat, Int.reduceLE, Int.reduceEq, Int.reduceLT, Nat.reduceEqDiff, Nat.reduceAdd, zDk, pd_eql, pd_neq, pd_eql0, pd_neq0, hr]
  refine CW_cond false (by rfl) (fun h => by cases h) (fun _ => CW_seq (CW_region ?_))
  simp only [zZ, reduceIte, Nat.reduceLT, Int.reduceToNat, Int.reduceLE, Int.reduceEq, Int.reduceLT, Nat.reduceEqDiff, Nat.reduceAdd, zDk, pd_eql, pd_neq, pd_eql0, pd_neq0, hr]
  refine CW_cond d.dead (by rfl) (fun h => CW_seq (CW_region ?_)) (fun h => CW_seq (CW_region ?_))
  · simp only [zZ, reduceIte, Nat.reduceLT, Int.reduceToNat, Int.reduceLE, Int.reduceEq, Int.reduceLT, Nat.reduceEqDiff, Nat.reduceAdd, zDk, pd_eql, pd_neq, pd_eql0, pd_neq0]
    refine CW_ret ?_
    simp only [zZ, reduceIte, Nat.reduceLT, Int.reduceToNat, Int.reduceLE, Int.reduceEq, Int.reduceLT, Nat.reduceEqDiff, Nat.reduceAdd, zDk, pd_eql, pd_neq, pd_eql0, pd_neq0, mEnd, sAnswer, sAnswer.sRes]
    exact ⟨M, Thin.refl _, by unfold Dsk.may; rw [if_pos h], rfl⟩
  have hn : (d.old.length : Int) ≤ 1024 := by have := hd.ok.n; omega
  have fin : ∀ b : Bool, b = decide (i < 0 ∨ (d.old.length : Int) ≤ i) → (if b = true then (10 : Int) else 0) = d.may i := fun b hb => by
    have e0 : d.may i = if i < 0 ∨ (d.old.length : Int) ≤ i then 10 else 0 := by unfold Dsk.may; rw [h]; rfl
    rw [e0, hb]
    by_cases e : i < 0 ∨ (d.old.length : Int) ≤ i <;> simp [e]
  cases q1 : decide (i < 0)
  · simp only [zZ, reduceIte, Nat.reduceLT, Int.reduceToNat, Int.reduceLE, Int.reduceEq, Int.reduceLT, Nat.reduceEqDiff, Nat.reduceAdd, zDk, pd_eql, pd_neq, pd_eql0, pd_neq0, hr, q1]
    refine CW_cond (decide (i ≥ (d.old.length : Int))) (by rfl) (fun h2 => CW_seq (CW_region ?_)) (fun h2 => CW_skip ?_)
    · simp only [zZ, reduceIte, Nat.reduceLT, Int.reduceToNat, Int.reduceLE, Int.reduceEq, Int.reduceLT, Nat.reduceEqDiff, Nat.reduceAdd, zDk, pd_eql, pd_neq, pd_eql0, pd_neq0]
      refine CW_ret ?_
      simp only [zZ, reduceIte, Nat.reduceLT, Int.reduceToNat, Int.reduceLE, Int.reduceEq, Int.reduceLT, Nat.reduceEqDiff, Nat.reduceAdd, zDk, pd_eql, pd_neq, pd_eql0, pd_neq0, mEnd, sAnswer, sAnswer.sRes]
      refine ⟨M, Thin.refl _, ?_, rfl⟩
      rw [← fin true (by have := of_decide_eq_true h2; simp; omega)]; rfl
    · simp only [zZ, reduceIte, Nat.reduceLT, Int.reduceToNat, Int.reduceLE, Int.reduceEq, Int.reduceLT, Nat.reduceEqDiff, Nat.reduceAdd, zDk, pd_eql, pd_neq, pd_eql0, pd_neq0]
      refine CW_seq (CW_region ?_)
      simp only [zZ, reduceIte, Nat.reduceLT, Int.reduceToNat, Int.reduceLE, Int.reduceEq, Int.reduceLT, Nat.reduceEqDiff, Nat.reduceAdd, zDk, pd_eql, pd_neq, pd_eql0, pd_neq0]
      refine CW_ret ?_
      simp only [zZ, reduceIte, Nat.reduceLT, Int.reduceToNat, Int.reduceLE, Int.reduceEq, Int.reduceLT, Nat.reduceEqDiff, Nat.reduceAdd, zDk, pd_eql, pd_neq, pd_eql0, pd_neq0, mEnd, sAnswer, sAnswer.sRes]
      refine ⟨M, Thin.refl _, ?_, rfl⟩
      rw [← fin false (by have := of_decide_eq_false h2; have := of_decide_eq_false q1; simp; omega)]; rfl
  · simp only [zZ, reduceIte, Nat.reduceLT, Int.reduceToNat, Int.reduceLE, Int.reduceEq, Int.reduceLT, Nat.reduceEqDiff, Nat.reduceAdd, zDk, pd_eql, pd_neq, pd_eql0, pd_neq0, hr, q1]
    refine CW_cond true (by rfl) (fun h2 => CW_seq (CW_region ?_)) (fun h2 => by cases h2)
    simp only [zZ, reduceIte, Nat.reduceLT, Int.reduceToNat, Int.reduceLE, Int.reduceEq, Int.reduceLT, Nat.reduceEqDiff, Nat.reduceAdd, zDk, pd_eql, pd_neq, pd_eql0, pd_neq0]
    refine CW_ret ?_
    simp only [zZ, reduceIte, Nat.reduceLT, Int.reduceToNat, Int.reduceLE, Int.reduceEq, Int.reduceLT, Nat.reduceEqDiff, Nat.reduceAdd, zDk, pd_eql, pd_neq, pd_eql0, pd_neq0, mEnd, sAnswer, sAnswer.sRes]
    refine ⟨M, Thin.refl _, ?_, rfl⟩
    rw [← fin true (by have := of_decide_eq_true q1; simp; omega)]; rfl
set_option maxRecDepth 100000 in
set_option maxHeartbeats 2000000 in
theorem dlen_spec (M : Mem) (p q g : Nat) (d : Dsk) (hd : DskAt M p q g d) :
    Abs.Spec Tryz.prog 23 [dp p] M fun u M' => u = .int .i64 (d.old.length : Nat) ∧ M' = M := by
  refine Abs.Spec.walkM Tryz.func23 (by rfl) _ Tryz.results23 _ Tryz.ntmps23 (by simp [dp]) ?_
  intro hc hx k
  unfold dp
  obtain ⟨s, hr⟩ := hd.row
  unfold dskC at hr
  refine CW_seq (CW_region ?_)
  simp only [zZ, reduceIte, Nat.reduceLT, Int.reduceToNat, Int.reduceLE, Int.reduceEq, Int.reduceLT, Nat.reduceEqDiff, Nat.reduceAdd, zDk, pd_eql, pd_neq, pd_eql0, pd_neq0]
  refine CW_seq (CW_seq (CW_region ?_))
  simp only [zZ, reduceIte, Nat.reduceLT, Int.reduceToNat, Int.reduceLE, Int.reduceEq, Int.reduceLT, Nat.reduceEqDiff, Nat.reduceAdd, zDk, pd_eql, pd_neq, pd_eql0, pd_neq0]
  refine CW_cond false (by rfl) (fun h => by cases h) (fun _ => CW_skip ?_)
  simp only [zZ, reduceIte, Nat.reduceLT, Int.reduceToNat, Int.reduceLE, Int.reduceEq, Int.reduceLT, Nat.reduceEqDiff, Nat.reduceAdd, zDk, pd_eql, pd_neq, pd_eql0, pd_neq0]
  refine CW_seq (CW_region ?_)
  simp only [zZ, reduceIte, Nat.reduceLT, Int.reduceToNat, Int.reduceLE, Int.reduceEq, Int.reduceLT, Nat.reduceEqDiff, Nat.reduceAdd, zDk, pd_eql, pd_neq, pd_eql0, pd_neq0, hr]
  refine CW_ret ?_
  simp only [zZ, reduceIte, Nat.reduceLT, Int.reduceToNat, Int.reduceLE, Int.reduceEq, Int.reduceLT, Nat.reduceEqDiff, Nat.reduceAdd, zDk, pd_eql, pd_neq, pd_eql0, pd_neq0, mEnd, sAnswer, sAnswer.sRes]
  exact ⟨M, Thin.refl _, rfl⟩
set_option maxRecDepth 100000 in
set_option maxHeartbeats 2000000 in
theorem burn_spec (M : Mem) (p q g : Nat) (d : Dsk) (hd : DskAt M p q g d) :
    Abs.Spec Tryz.prog 35 [dp p] M fun u M' => u = .bool (!decide (d.fuse = 0)) ∧ DskAt M' p q g d.burnt ∧ Only [p] M M' ∧ M'.size = M.size := by
  refine Abs.Spec.walkM Tryz.func35 (by rfl) _ Tryz.results35 _ Tryz.ntmps35 (by simp [dp]) ?_
  intro hc hx k
  unfold dp
  obtain ⟨s, hr0⟩ := hd.row
  have hr := hr0
  unfold dskC at hr
  have hfu := hd.ok.fuse
  refine CW_seq (CW_region ?_)
  simp only [zZ, reduceIte, Nat.reduceLT, Int.reduceToNat, Int.reduceLE, Int.reduceEq, Int.reduceLT, Nat.reduceEqDiff, Nat.reduceAdd, zDk, pd_eql, pd_neq, pd_eql0, pd_neq0]
  refine CW_seq (CW_seq (CW_region ?_))
  simp only [zZ, reduceIte, Nat.reduceLT, Int.reduceToNat, Int.reduceLE, Int.reduceEq, Int.reduceLT, Nat.reduceEqDiff, Nat.reduceAdd, zDk, pd_eql, pd_neq, pd_eql0, pd_neq0, hr]
  refine CW_cond (d.fuse == 0) (by rfl) (fun h => CW_seq (CW_region ?_)) (fun h => CW_skip ?_)
  · have h0 : d.fuse = 0 := by simpa using h
    have e : d.burnt = { d with dead := true } := by unfold Dsk.burnt; rw [if_pos h0]
    simp only [zZ, reduceIte, Nat.reduceLT, Int.reduceToNat, Int.reduceLE, Int.reduceEq, Int.reduceLT, Nat.reduceEqDiff, Nat.reduceAdd, zDk, pd_eql, pd_neq, pd_eql0, pd_neq0, hr]
    refine CW_seq (CW_region ?_)
    simp only [zZ, reduceIte, Nat.reduceLT, Int.reduceToNat, Int.reduceLE, Int.reduceEq, Int.reduceLT, Nat.reduceEqDiff, Nat.reduceAdd, zDk, pd_eql, pd_neq, pd_eql0, pd_neq0]
    refine CW_ret ?_
    simp only [zZ, reduceIte, Nat.reduceLT, Int.reduceToNat, Int.reduceLE, Int.reduceEq, Int.reduceLT, Nat.reduceEqDiff, Nat.reduceAdd, zDk, pd_eql, pd_neq, pd_eql0, pd_neq0, mEnd, sAnswer, sAnswer.sRes]
    refine ⟨_, Thin.refl _, by simp [h0], ?_, Only.set (by simp) _, by simp⟩
    have := hd.turn hd.ok.burnt (burnt_old d) (burnt_last d) (burnt_clock d) s
    rw [e] at this ⊢
    exact this
  · have h0 : d.fuse ≠ 0 := by simpa using h
    have e : d.burnt = { d with fuse := max (d.fuse - 1) (-1) } := by unfold Dsk.burnt; rw [if_neg h0]
    simp only [zZ, reduceIte, Nat.reduceLT, Int.reduceToNat, Int.reduceLE, Int.reduceEq, Int.reduceLT, Nat.reduceEqDiff, Nat.reduceAdd, zDk, pd_eql, pd_neq, pd_eql0, pd_neq0]
    refine CW_seq (CW_region ?_)
    have w1 : IntKind.i64.wrap (d.fuse - 1) = d.fuse - 1 := wri (by omega) (by omega)
    simp only [zZ, reduceIte, Nat.reduceLT, Int.reduceToNat, Int.reduceLE, Int.reduceEq, Int.reduceLT, Nat.reduceEqDiff, Nat.reduceAdd, zDk, pd_eql, pd_neq, pd_eql0, pd_neq0, hr, w1, vMax_int]
    refine CW_seq (CW_region ?_)
    simp only [zZ, reduceIte, Nat.reduceLT, Int.reduceToNat, Int.reduceLE, Int.reduceEq, Int.reduceLT, Nat.reduceEqDiff, Nat.reduceAdd, zDk, pd_eql, pd_neq, pd_eql0, pd_neq0]
    refine CW_ret ?_
    simp only [zZ, reduceIte, Nat.reduceLT, Int.reduceToNat, Int.reduceLE, Int.reduceEq, Int.reduceLT, Nat.reduceEqDiff, Nat.reduceAdd, zDk, pd_eql, pd_neq, pd_eql0, pd_neq0, mEnd, sAnswer, sAnswer.sRes]
    refine ⟨_, Thin.refl _, by simp [h0], ?_, Only.set (by simp) _, by simp⟩
    have := hd.turn hd.ok.burnt (burnt_old d) (burnt_last d) (burnt_clock d) s
    rw [e] at this ⊢
    exact this
theorem dead_spec (M : Mem) (p q g : Nat) (d : Dsk) (hd : DskAt M p q g d) :
    Abs.Spec Tryz.prog 24 [dp p] M fun u M' => u = .bool d.dead ∧ M' = M := by
  refine Abs.Spec.walkM Tryz.func24 (by rfl) _ Tryz.results24 _ Tryz.ntmps24 (by simp [dp]) ?_
  intro hc hx k
  unfold dp
  obtain ⟨s, hr⟩ := hd.row
  unfold dskC at hr
  refine CW_seq (CW_region ?_)
  simp only [zZ, reduceIte, Nat.reduceLT, Int.reduceToNat, Int.reduceLE, Int.reduceEq, Int.reduceLT, Nat.reduceEqDiff, Nat.reduceAdd, zDk, pd_eql, pd_neq, pd_eql0, pd_neq0]
  refine CW_seq (CW_region ?_)
  simp only [zZ, reduceIte, Nat.reduceLT, Int.reduceToNat, Int.reduceLE, Int.reduceEq, Int.reduceLT, Nat.reduceEqDiff, Nat.reduceAdd, zDk, pd_eql, pd_neq, pd_eql0, pd_neq0, hr]
  refine CW_ret ?_
  simp only [zZ, reduceIte, Nat.reduceLT, Int.reduceToNat, Int.reduceLE, Int.reduceEq, Int.reduceLT, Nat.reduceEqDiff, Nat.reduceAdd, zDk, pd_eql, pd_neq, pd_eql0, pd_neq0, mEnd, sAnswer, sAnswer.sRes]
  exact ⟨M, Thin.refl _, rfl⟩
set_option maxRecDepth 100000 in
set_option maxHeartbeats 2000000 in
theorem read_spec (M : Mem) (p q g : Nat) (d : Dsk) (hd : DskAt M p q g d) (i : Int) :
    Abs.Spec Tryz.prog 40 [dp p, .int .i64 i] M fun u M' => u = .tuple #[.string (str (d.read i).1), .int .i64 (d.read i).2] ∧ M' = M := by
  refine Abs.Spec.walkM Tryz.func40 (by rfl) _ Tryz.results40 _ Tryz.ntmps40 (by simp [dp]) ?_
  intro hc hx k
  obtain ⟨s, hr⟩ := hd.row
  unfold dskC at hr
  refine CW_seq (CW_region ?_)
  simp only [zZ, reduceIte, Nat.reduceLT, Int.reduceToNat, Int.reduceLE, Int.reduceEq, Int.reduceLT, Nat.reduceEqDiff, Nat.reduceAdd, zDk, pd_eql, pd_neq, pd_eql0, pd_neq0]
  refine CW_seq (CW_seq (CW_region ?_))
  simp only [zZ, reduceIte, Nat.reduceLT, Int.reduceToNat, Int.reduceLE, Int.reduceEq, Int.reduceLT, Nat.reduceEqDiff, Nat.reduceAdd, zDk, pd_eql, pd_neq, pd_eql0, pd_neq0]
  refine ⟨by kernel_rfl, _, may_spec M p q g d hd i, ?_⟩
  rintro _ M9 ⟨rfl, e9⟩; replace e9 := e9.symm; subst e9
  simp only [zZ, reduceIte, Nat.reduceLT, Int.reduceToNat, Int.reduceLE, Int.reduceEq, Int.reduceLT, Nat.reduceEqDiff, Nat.reduceAdd, zDk, pd_eql, pd_neq, pd_eql0, pd_neq0]
  refine CW_seq (CW_region ?_)
  simp only [zZ, reduceIte, Nat.reduceLT, Int.reduceToNat, Int.reduceLE, Int.reduceEq, Int.reduceLT, Nat.reduceEqDiff, Nat.reduceAdd, zDk, pd_eql, pd_neq, pd_eql0, pd_neq0]
  refine CW_cond (d.may i != 0) (by rfl) (fun h => CW_seq (CW_region ?_)) (fun h => CW_skip ?_)
  · simp only [zZ, reduceIte, Nat.reduceLT, Int.reduceToNat, Int.reduceLE, Int.reduceEq, Int.reduceLT, Nat.reduceEqDiff, Nat.reduceAdd, zDk, pd_eql, pd_neq, pd_eql0, pd_neq0]
    refine CW_ret ?_
    simp only [zZ, reduceIte, Nat.reduceLT, Int.reduceToNat, Int.reduceLE, Int.reduceEq, Int.reduceLT, Nat.reduceEqDiff, Nat.reduceAdd, zDk, pd_eql, pd_neq, pd_eql0, pd_neq0, mEnd, sAnswer, sAnswer.sRes]
    have h : d.may i ≠ 0 := by simpa using h
    unfold Dsk.read
    rw [if_neg h]
    exact ⟨_, Thin.refl _, rfl, rfl⟩
  have h : d.may i = 0 := by simpa using h
  simp only [zZ, reduceIte, Nat.reduceLT, Int.reduceToNat, Int.reduceLE, Int.reduceEq, Int.reduceLT, Nat.reduceEqDiff, Nat.reduceAdd, zDk, pd_eql, pd_neq, pd_eql0, pd_neq0]
  obtain ⟨n, rfl, hn⟩ : ∃ n : Nat, i = (n : Int) ∧ n < d.old.length := by
    unfold Dsk.may at h
    split at h
    · cases h
    · split at h
      · cases h
      · exact ⟨i.toNat, by omega, by omega⟩
  have hrd : d.read (n : Int) = (d.sector n, 0) := by unfold Dsk.read; rw [if_pos h]; rfl
  rw [hrd]
  have hdp : dp p = .pointer (some ⟨p, 0, none⟩) := rfl
  refine CW_seq (CW_seq (CW_region ?_))
  simp only [zZ, reduceIte, Nat.reduceLT, Int.reduceToNat, Int.reduceLE, Int.reduceEq, Int.reduceLT, Nat.reduceEqDiff, Nat.reduceAdd, zDk, pd_eql, pd_neq, pd_eql0, pd_neq0, hr, hdp, look_dsk hd.kv]
  refine CW_seq (CW_region ?_)
  simp only [zZ, reduceIte, Nat.reduceLT, Int.reduceToNat, Int.reduceLE, Int.reduceEq, Int.reduceLT, Nat.reduceEqDiff, Nat.reduceAdd, zDk, pd_eql, pd_neq, pd_eql0, pd_neq0]
  cases hl : lastOf d.last n with
  | some s' =>
    simp only [Option.isSome_some, Option.getD_some]
    refine CW_cond true (by rfl) (fun _ => CW_seq (CW_region ?_)) (fun h => by cases h)
    simp only [zZ, reduceIte, Nat.reduceLT, Int.reduceToNat, Int.reduceLE, Int.reduceEq, Int.reduceLT, Nat.reduceEqDiff, Nat.reduceAdd, zDk, pd_eql, pd_neq, pd_eql0, pd_neq0]
    refine CW_ret ?_
    simp only [zZ, reduceIte, Nat.reduceLT, Int.reduceToNat, Int.reduceLE, Int.reduceEq, Int.reduceLT, Nat.reduceEqDiff, Nat.reduceAdd, zDk, pd_eql, pd_neq, pd_eql0, pd_neq0, mEnd, sAnswer, sAnswer.sRes]
    unfold Dsk.sector
    rw [hl]
    exact ⟨_, Thin.refl _, rfl, rfl⟩
  | none =>
    simp only [Option.isSome_none, Option.getD_none]
    refine CW_cond false (by rfl) (fun h => by cases h) (fun _ => CW_skip ?_)
    simp only [zZ, reduceIte, Nat.reduceLT, Int.reduceToNat, Int.reduceLE, Int.reduceEq, Int.reduceLT, Nat.reduceEqDiff, Nat.reduceAdd, zDk, pd_eql, pd_neq, pd_eql0, pd_neq0]
    refine CW_seq (CW_region ?_)
    have g0 : (0 : Int) ≤ (n : Int) := by omega
    have g1 : (n : Int) < (d.old.length : Int) := by omega
    have hc : cellIn n (some (.cells false 1 (d.old.map fun s => .string (str s)))) = some (.string (str ((d.old[n]?).getD []))) := by
      simp only [cellIn, List.getElem?_map, List.getElem?_eq_getElem hn, Option.map_some, Option.getD_some]
    simp only [zZ, reduceIte, Nat.reduceLT, Int.reduceToNat, Int.reduceLE, Int.reduceEq, Int.reduceLT, Nat.reduceEqDiff, Nat.reduceAdd, zDk, pd_eql, pd_neq, pd_eql0, pd_neq0, hr, g0, g1, and_self, hd.old, hc]
    refine CW_ret ?_
    simp only [zZ, reduceIte, Nat.reduceLT, Int.reduceToNat, Int.reduceLE, Int.reduceEq, Int.reduceLT, Nat.reduceEqDiff, Nat.reduceAdd, zDk, pd_eql, pd_neq, pd_eql0, pd_neq0, mEnd, sAnswer, sAnswer.sRes]
    unfold Dsk.sector
    rw [hl]
    exact ⟨_, Thin.refl _, rfl, rfl⟩
theorem rep_zero : ∀ k : Nat, Lib.repeatL [(0 : UInt8)] k = List.replicate k 0
  | 0 => rfl
  | k + 1 => by rw [Lib.repeatL, rep_zero k]; rfl
set_option maxRecDepth 100000 in
set_option maxHeartbeats 2000000 in
theorem write_spec (M : Mem) (p q g : Nat) (d : Dsk) (hd : DskAt M p q g d) (i : Int) (x : List UInt8) (hx0 : x.length ≤ 1000000) :
    Abs.Spec Tryz.prog 42 [dp p, .int .i64 i, .string (str x)] M fun u M' => u = .int .i64 (d.write i x).2 ∧ DskAt M' p q g (d.write i x).1 ∧ Only [p, q] M M' ∧ M'.size = M.size := by
  refine Abs.Spec.walkM Tryz.func42 (by rfl) _ Tryz.results42 _ Tryz.ntmps42 (by simp [dp]) ?_
  intro hc hx k
  have hbs : bsize (str x) = x.length := rfl
  obtain ⟨D, hD⟩ : ∃ D, D = d.write i x := ⟨_, rfl⟩
  rw [← hD]
  unfold Dsk.write at hD
  refine CW_seq (CW_region ?_)
  simp only [zZ, reduceIte, Nat.reduceLT, Int.reduceToNat, Int.reduceLE, Int.reduceEq, Int.reduceLT, Nat.reduceEqDiff, Nat.reduceAdd, zDk, pd_eql, pd_neq, pd_eql0, pd_neq0]
  refine CW_seq (CW_seq (CW_region ?_))
  simp only [zZ, reduceIte, Nat.reduceLT, Int.reduceToNat, Int.reduceLE, Int.reduceEq, Int.reduceLT, Nat.reduceEqDiff, Nat.reduceAdd, zDk, pd_eql, pd_neq, pd_eql0, pd_neq0]
  refine ⟨by kernel_rfl, _, may_spec M p q g d hd i, ?_⟩
  rintro _ M9 ⟨rfl, e9⟩; replace e9 := e9.symm; subst e9
  simp only [zZ, reduceIte, Nat.reduceLT, Int.reduceToNat, Int.reduceLE, Int.reduceEq, Int.reduceLT, Nat.reduceEqDiff, Nat.reduceAdd, zDk, pd_eql, pd_neq, pd_eql0, pd_neq0]
  refine CW_seq (CW_region ?_)
  simp only [zZ, reduceIte, Nat.reduceLT, Int.reduceToNat, Int.reduceLE, Int.reduceEq, Int.reduceLT, Nat.reduceEqDiff, Nat.reduceAdd, zDk, pd_eql, pd_neq, pd_eql0, pd_neq0]
  refine CW_cond (d.may i != 0) (by rfl) (fun h => CW_seq (CW_region ?_)) (fun h => CW_skip ?_)
  · simp only [zZ, reduceIte, Nat.reduceLT, Int.reduceToNat, Int.reduceLE, Int.reduceEq, Int.reduceLT, Nat.reduceEqDiff, Nat.reduceAdd, zDk, pd_eql, pd_neq, pd_eql0, pd_neq0]
    refine CW_ret ?_
    simp only [zZ, reduceIte, Nat.reduceLT, Int.reduceToNat, Int.reduceLE, Int.reduceEq, Int.reduceLT, Nat.reduceEqDiff, Nat.reduceAdd, zDk, pd_eql, pd_neq, pd_eql0, pd_neq0, mEnd, sAnswer, sAnswer.sRes]
    have h : d.may i ≠ 0 := by simpa using h
    rw [if_pos h] at hD
    subst hD
    exact ⟨_, Thin.refl _, rfl, hd, Only.refl _ _, rfl⟩
  have h : d.may i = 0 := by simpa using h
  rw [if_neg (by simp [h])] at hD
  simp only [zZ, reduceIte, Nat.reduceLT, Int.reduceToNat, Int.reduceLE, Int.reduceEq, Int.reduceLT, Nat.reduceEqDiff, Nat.reduceAdd, zDk, pd_eql, pd_neq, pd_eql0, pd_neq0]
  obtain ⟨n, rfl, hn⟩ : ∃ n : Nat, i = (n : Int) ∧ n < d.old.length := by
    unfold Dsk.may at h
    split at h
    · cases h
    · split at h
      · cases h
      · exact ⟨i.toNat, by omega, by omega⟩
  refine CW_seq (CW_seq (CW_region ?_))
  simp only [zZ, reduceIte, Nat.reduceLT, Int.reduceToNat, Int.reduceLE, Int.reduceEq, Int.reduceLT, Nat.reduceEqDiff, Nat.reduceAdd, zDk, pd_eql, pd_neq, pd_eql0, pd_neq0, hbs]
  refine CW_cond (decide ((x.length : Int) > 256)) (by rfl) (fun h => CW_seq (CW_region ?_)) (fun h => CW_skip ?_)
  · simp only [zZ, reduceIte, Nat.reduceLT, Int.reduceToNat, Int.reduceLE, Int.reduceEq, Int.reduceLT, Nat.reduceEqDiff, Nat.reduceAdd, zDk, pd_eql, pd_neq, pd_eql0, pd_neq0]
    refine CW_ret ?_
    simp only [zZ, reduceIte, Nat.reduceLT, Int.reduceToNat, Int.reduceLE, Int.reduceEq, Int.reduceLT, Nat.reduceEqDiff, Nat.reduceAdd, zDk, pd_eql, pd_neq, pd_eql0, pd_neq0, mEnd, sAnswer, sAnswer.sRes]
    have h := of_decide_eq_true h
    rw [if_pos (by omega)] at hD
    subst hD
    exact ⟨_, Thin.refl _, rfl, hd, Only.refl _ _, rfl⟩
  have h2 := of_decide_eq_false h
  rw [if_neg (by omega)] at hD
  simp only [zZ, reduceIte, Nat.reduceLT, Int.reduceToNat, Int.reduceLE, Int.reduceEq, Int.reduceLT, Nat.reduceEqDiff, Nat.reduceAdd, zDk, pd_eql, pd_neq, pd_eql0, pd_neq0]
  refine CW_seq (CW_seq (CW_region ?_))
  simp only [zZ, reduceIte, Nat.reduceLT, Int.reduceToNat, Int.reduceLE, Int.reduceEq, Int.reduceLT, Nat.reduceEqDiff, Nat.reduceAdd, zDk, pd_eql, pd_neq, pd_eql0, pd_neq0]
  refine ⟨by kernel_rfl, _, burn_spec M p q g d hd, ?_⟩
  rintro _ M1 ⟨rfl, hd1, ho1, hs1⟩
  simp only [zZ, reduceIte, Nat.reduceLT, Int.reduceToNat, Int.reduceLE, Int.reduceEq, Int.reduceLT, Nat.reduceEqDiff, Nat.reduceAdd, zDk, pd_eql, pd_neq, pd_eql0, pd_neq0]
  refine CW_cond (!!decide (d.fuse = 0)) (by rfl) (fun h => CW_seq (CW_region ?_)) (fun h => CW_skip ?_)
  · simp only [zZ, reduceIte, Nat.reduceLT, Int.reduceToNat, Int.reduceLE, Int.reduceEq, Int.reduceLT, Nat.reduceEqDiff, Nat.reduceAdd, zDk, pd_eql, pd_neq, pd_eql0, pd_neq0]
    refine CW_ret ?_
    simp only [zZ, reduceIte, Nat.reduceLT, Int.reduceToNat, Int.reduceLE, Int.reduceEq, Int.reduceLT, Nat.reduceEqDiff, Nat.reduceAdd, zDk, pd_eql, pd_neq, pd_eql0, pd_neq0, mEnd, sAnswer, sAnswer.sRes]
    rw [Bool.not_not] at h
    have h := of_decide_eq_true h
    rw [if_pos h] at hD
    subst hD
    exact ⟨_, Thin.refl _, rfl, hd1, ho1.mono (by simp), hs1⟩
  rw [Bool.not_not] at h
  have h3 := of_decide_eq_false h
  rw [if_neg h3] at hD
  simp only [zZ, reduceIte, Nat.reduceLT, Int.reduceToNat, Int.reduceLE, Int.reduceEq, Int.reduceLT, Nat.reduceEqDiff, Nat.reduceAdd, zDk, pd_eql, pd_neq, pd_eql0, pd_neq0]
  obtain ⟨s, hr⟩ := hd1.row
  unfold dskC at hr
  have w1 : IntKind.i64.wrap (256 - (x.length : Int)) = ((256 - x.length : Nat) : Int) := by rw [wri (by omega) (by omega)]; omega
  have hrep : Lib.repeatL [(0 : UInt8)] (256 - x.length) = List.replicate (256 - x.length) 0 := rep_zero _
  have hdp : dp p = .pointer (some ⟨p, 0, none⟩) := rfl
  have hcat : bsize (str x) + bsize (str (Lib.repeatL (str [0]).data.toList (256 - x.length))) ≤ 4611686018427387904 := by
    show bsize (str x) + bsize (str (Lib.repeatL [0] (256 - x.length))) ≤ _
    rw [hrep]; show x.length + (List.replicate (256 - x.length) (0 : UInt8)).length ≤ _; simp; omega
  have hcat2 : bcat (str x) (str (Lib.repeatL (str [0]).data.toList (256 - x.length))) = str (filled x) := by
    show bcat (str x) (str (Lib.repeatL [0] (256 - x.length))) = _
    rw [hrep]; rfl
  refine CW_seq (CW_draw2 hmix 11 (by kernel_rfl) ?_)
  simp only [zZ, reduceIte, Nat.reduceLT, Int.reduceToNat, Int.reduceLE, Int.reduceEq, Int.reduceLT, Nat.reduceEqDiff, Nat.reduceAdd, zDk, pd_eql, pd_neq, pd_eql0, pd_neq0, hr, hdp, w1, hbs]
  refine ⟨by kernel_rfl, _, repeat_spec (str [0]) (256 - x.length) (by omega) (by show 1 * (256 - x.length) ≤ _; omega) _, ?_⟩
  refine ⟨by decide, ?_⟩
  have hupd := upd_dsk (s := filled x) hd1.kv hd1.ok.keys n
  simp only [zZ, reduceIte, Nat.reduceLT, Int.reduceToNat, Int.reduceLE, Int.reduceEq, Int.reduceLT, Nat.reduceEqDiff, Nat.reduceAdd, zDk, pd_eql, pd_neq, pd_eql0, pd_neq0, hr]
  refine ⟨hcat, ?_⟩
  simp only [zZ, reduceIte, Nat.reduceLT, Int.reduceToNat, Int.reduceLE, Int.reduceEq, Int.reduceLT, Nat.reduceEqDiff, Nat.reduceAdd, zDk, pd_eql, pd_neq, pd_eql0, pd_neq0, hcat2, hupd]
  refine CW_seq (CW_region ?_)
  simp only [zZ, reduceIte, Nat.reduceLT, Int.reduceToNat, Int.reduceLE, Int.reduceEq, Int.reduceLT, Nat.reduceEqDiff, Nat.reduceAdd, zDk, pd_eql, pd_neq, pd_eql0, pd_neq0]
  refine CW_ret ?_
  simp only [zZ, reduceIte, Nat.reduceLT, Int.reduceToNat, Int.reduceLE, Int.reduceEq, Int.reduceLT, Nat.reduceEqDiff, Nat.reduceAdd, zDk, pd_eql, pd_neq, pd_eql0, pd_neq0, mEnd, sAnswer, sAnswer.sRes]
  subst hD
  have hok := hd1.ok.put (i := n) (by rw [burnt_old]; exact hn) (filled_len (s := x) (by omega))
  refine ⟨_, Thin.refl _, rfl, hd1.kvTurn hok, (ho1.mono (by simp)).trans (Only.set (by simp) _), by simp [hs1]⟩
end Go.Proofs.YtmnebimijlnlkaaGreatDoor
namespace Go.Proofs.YtmnebimijlnlkaaGreatDoor
open Go.RowKit Abs
theorem next_dsk {m : Mem} {r q since last c : Nat} {seen : List Nat} {ro : Bool} {L : LastL} (hr : m.get r = some (.it false q since seen last)) (hq : m.get q = some (.kv ro (ents L) c)) (hc : ∀ x ∈ L, x.2.2 < since) (hl : since ≤ last) :
    aNext m (.pointer (some ⟨r, 0, none⟩)) = some fun v m' => (v = .tuple #[.bool false] ∧ m' = m ∧ aLeft (ents L) seen = []) ∨ ∃ e ∈ aLeft (ents L) seen, v = .tuple #[.bool true, e.key, e.val] ∧ m' = m.set r (some (.it false q since (seen ++ [e.born]) c)) := by
  unfold aNext
  simp only [hr, hq]
  rw [if_pos ⟨by
    rw [List.all_eq_true]
    intro e he
    unfold ents at he
    rw [List.mem_map] at he
    obtain ⟨x, hx, rfl⟩ := he
    simpa using hc x hx, hl⟩]
theorem entry_dsk {get : Nat → Option Blk} {r q since c : Nat} {seen : List Nat} {ro ro' : Bool} {L : LastL} {x : Nat × List UInt8 × Nat} (hr : get r = some (.it ro' q since (seen ++ [x.2.2]) c)) (hq : get q = some (.kv ro (ents L) c)) (hb : (L.map (·.2.2)).Nodup) (hx : x ∈ L) :
    aEntry get (.pointer (some ⟨r, 0, none⟩)) = some (.tuple #[.int .i64 (x.1 : Nat), .string (str x.2.1)]) := by
  unfold aEntry
  simp only [hr, hq, if_true, List.getLast?_concat, ents_find hb hx]
theorem syncV_size {E : Dsk} (h : E.Ok) (seen : List Nat) {s : List UInt8} (hs : s ∈ syncV E.old E.last seen) : s.length = 256 := by
  unfold syncV at hs
  rw [List.mem_mapIdx] at hs
  obtain ⟨i, hi, rfl⟩ := hs
  split
  · rename_i x hx
    exact (h.within x (List.mem_of_find?_eq_some hx)).2
  · exact h.size _ (List.getElem_mem hi)
theorem nodup_born {L : LastL} (h : (L.map (·.2.2)).Nodup) {x y : Nat × List UInt8 × Nat} (hx : x ∈ L) (hy : y ∈ L) (e : x.2.2 = y.2.2) : x = y := by
  induction L with
  | nil => cases hx
  | cons a L ih =>
    rw [List.map_cons, List.nodup_cons] at h
    rcases List.mem_cons.1 hx with rfl | hx' <;> rcases List.mem_cons.1 hy with rfl | hy'
    · rfl
    · exact absurd (List.mem_map.2 ⟨y, hy', e.symm⟩) h.1
    · exact absurd (List.mem_map.2 ⟨x, hx', e⟩) h.1
    · exact ih h.2 hx' hy'
set_option maxRecDepth 100000 in
set_option maxHeartbeats 2000000 in
theorem sync_spec (M : Mem) (p q g : Nat) (d : Dsk) (hd : DskAt M p q g d) :
    Abs.Spec Tryz.prog 12 [dp p] M fun u M' => u = .int .i64 d.sync.2 ∧ DskAt M' p q g d.sync.1 ∧ Only [p, q, g] M M' ∧ M.size ≤ M'.size := by
  refine Abs.Spec.walkM Tryz.func12 (by rfl) _ Tryz.results12 _ Tryz.ntmps12 (by simp [dp]) ?_
  intro hc hx k
  obtain ⟨D, hD⟩ : ∃ D, D = d.sync := ⟨_, rfl⟩
  rw [← hD]
  unfold Dsk.sync at hD
  refine CW_seq (CW_region ?_)
  simp only [zZ, reduceIte, Nat.reduceLT, Int.reduceToNat, Int.reduceLE, Int.reduceEq, Int.reduceLT, Nat.reduceEqDiff, Nat.reduceAdd, zDk, pd_eql, pd_neq, pd_eql0, pd_neq0]
  refine CW_seq (CW_seq (CW_region ?_))
  simp only [zZ, reduceIte, Nat.reduceLT, Int.reduceToNat, Int.reduceLE, Int.reduceEq, Int.reduceLT, Nat.reduceEqDiff, Nat.reduceAdd, zDk, pd_eql, pd_neq, pd_eql0, pd_neq0]
  refine ⟨by kernel_rfl, _, may_spec M p q g d hd 0, ?_⟩
  rintro _ M9 ⟨rfl, e9⟩; replace e9 := e9.symm; subst e9
  simp only [zZ, reduceIte, Nat.reduceLT, Int.reduceToNat, Int.reduceLE, Int.reduceEq, Int.reduceLT, Nat.reduceEqDiff, Nat.reduceAdd, zDk, pd_eql, pd_neq, pd_eql0, pd_neq0]
  refine CW_seq (CW_region ?_)
  simp only [zZ, reduceIte, Nat.reduceLT, Int.reduceToNat, Int.reduceLE, Int.reduceEq, Int.reduceLT, Nat.reduceEqDiff, Nat.reduceAdd, zDk, pd_eql, pd_neq, pd_eql0, pd_neq0]
  refine CW_cond (d.may 0 != 0) (by rfl) (fun h => CW_seq (CW_region ?_)) (fun h => CW_skip ?_)
  · simp only [zZ, reduceIte, Nat.reduceLT, Int.reduceToNat, Int.reduceLE, Int.reduceEq, Int.reduceLT, Nat.reduceEqDiff, Nat.reduceAdd, zDk, pd_eql, pd_neq, pd_eql0, pd_neq0]
    refine CW_ret ?_
    simp only [zZ, reduceIte, Nat.reduceLT, Int.reduceToNat, Int.reduceLE, Int.reduceEq, Int.reduceLT, Nat.reduceEqDiff, Nat.reduceAdd, zDk, pd_eql, pd_neq, pd_eql0, pd_neq0, mEnd, sAnswer, sAnswer.sRes]
    have h : d.may 0 ≠ 0 := by simpa using h
    rw [if_pos h] at hD
    subst hD
    exact ⟨_, Thin.refl _, rfl, hd, Only.refl _ _, Nat.le_refl _⟩
  have h : d.may 0 = 0 := by simpa using h
  rw [if_neg (by simp [h])] at hD
  simp only [zZ, reduceIte, Nat.reduceLT, Int.reduceToNat, Int.reduceLE, Int.reduceEq, Int.reduceLT, Nat.reduceEqDiff, Nat.reduceAdd, zDk, pd_eql, pd_neq, pd_eql0, pd_neq0]
  refine CW_seq (CW_seq (CW_region ?_))
  simp only [zZ, reduceIte, Nat.reduceLT, Int.reduceToNat, Int.reduceLE, Int.reduceEq, Int.reduceLT, Nat.reduceEqDiff, Nat.reduceAdd, zDk, pd_eql, pd_neq, pd_eql0, pd_neq0]
  refine ⟨by kernel_rfl, _, burn_spec M p q g d hd, ?_⟩
  rintro _ M1 ⟨rfl, hd1, ho1, hs1⟩
  simp only [zZ, reduceIte, Nat.reduceLT, Int.reduceToNat, Int.reduceLE, Int.reduceEq, Int.reduceLT, Nat.reduceEqDiff, Nat.reduceAdd, zDk, pd_eql, pd_neq, pd_eql0, pd_neq0]
  refine CW_cond (!!decide (d.fuse = 0)) (by rfl) (fun h => CW_seq (CW_region ?_)) (fun h => CW_skip ?_)
  · simp only [zZ, reduceIte, Nat.reduceLT, Int.reduceToNat, Int.reduceLE, Int.reduceEq, Int.reduceLT, Nat.reduceEqDiff, Nat.reduceAdd, zDk, pd_eql, pd_neq, pd_eql0, pd_neq0]
    refine CW_ret ?_
    simp only [zZ, reduceIte, Nat.reduceLT, Int.reduceToNat, Int.reduceLE, Int.reduceEq, Int.reduceLT, Nat.reduceEqDiff, Nat.reduceAdd, zDk, pd_eql, pd_neq, pd_eql0, pd_neq0, mEnd, sAnswer, sAnswer.sRes]
    rw [Bool.not_not] at h
    have h := of_decide_eq_true h
    rw [if_pos h] at hD
    subst hD
    exact ⟨_, Thin.refl _, rfl, hd1, ho1.mono (by simp), by omega⟩
  rw [Bool.not_not] at h
  have h3 := of_decide_eq_false h
  rw [if_neg h3] at hD
  simp only [zZ, reduceIte, Nat.reduceLT, Int.reduceToNat, Int.reduceLE, Int.reduceEq, Int.reduceLT, Nat.reduceEqDiff, Nat.reduceAdd, zDk, pd_eql, pd_neq, pd_eql0, pd_neq0]
  have hdp : dp p = .pointer (some ⟨p, 0, none⟩) := rfl
  obtain ⟨E, hE⟩ : ∃ E, E = d.burnt := ⟨_, rfl⟩
  rw [← hE] at hd1 hD
  clear hE
  obtain ⟨s, hr⟩ := hd1.row
  have hr' := hr
  unfold dskC at hr
  refine CW_seq (CW_seq (CW_region ?_))
  simp only [zZ, reduceIte, Nat.reduceLT, Int.reduceToNat, Int.reduceLE, Int.reduceEq, Int.reduceLT, Nat.reduceEqDiff, Nat.reduceAdd, zDk, pd_eql, pd_neq, pd_eql0, pd_neq0, hr, hdp, range_dsk hd1.kv]
  obtain ⟨M2, hM2⟩ : ∃ M2, M2 = M1.push (.it false q E.clock [] E.clock) := ⟨_, rfl⟩
  obtain ⟨r, hr0⟩ : ∃ r, r = M1.size := ⟨_, rfl⟩
  rw [← hM2, ← hr0]
  have hrp : r ≠ p := by have := get_live hr; omega
  have hrq : r ≠ q := by have := get_live hd1.kv; omega
  have hrg : r ≠ g := by have := get_live hd1.old; omega
  have hit : M2.get r = some (.it false q E.clock [] E.clock) := by rw [hM2, hr0, Mem.get_push_new]
  have hold2 : ∀ b x, M1.get b = some x → M2.get b = some x := fun b x hb => by rw [hM2, Mem.get_push_old (get_live hb)]; exact hb
  have hs2 : M2.size = M1.size + 1 := by rw [hM2, Mem.size_push]
  refine CW_block (MW_loop (fun j f M' => ∃ seen : List Nat, j = (aLeft (ents E.last) seen).length ∧ f = [(0, .pointer (some ⟨p, 0, none⟩)), (18, .pointer (some ⟨r, 0, none⟩))] ∧ M'.get r = some (.it false q E.clock seen E.clock) ∧
    DskAt M' p q g { E with old := syncV E.old E.last seen } ∧ Only [g, r] M2 M' ∧ M'.size = M2.size) (aLeft (ents E.last) []).length ?_ ?_)
  · refine ⟨[0, 18], ?_⟩
    simp only [zZ, reduceIte, Nat.reduceLT, Int.reduceToNat, Int.reduceLE, Int.reduceEq, Int.reduceLT, Nat.reduceEqDiff, Nat.reduceAdd, keepF]
    refine ⟨M2, Thin.refl _, [], rfl, hit, ?_, Only.refl _ _, rfl⟩
    rw [syncV_nil]
    exact hd1.same hold2
  · rintro j f M' ⟨seen, rfl, rfl, hit', hd', ho', hs'⟩
    have hnx := next_dsk hit' hd'.kv (by exact hd1.ok.clock) (Nat.le_refl _)
    refine CW_seq (CW_region ?_)
    simp only [zZ, reduceIte, Nat.reduceLT, Int.reduceToNat, Int.reduceLE, Int.reduceEq, Int.reduceLT, Nat.reduceEqDiff, Nat.reduceAdd, zDk, pd_eql, pd_neq, pd_eql0, pd_neq0, hnx]
    rintro v m' (⟨rfl, e9, hdone⟩ | ⟨e, he, rfl, rfl⟩)
    · replace e9 := e9.symm; subst e9
      simp only [zZ, reduceIte, Nat.reduceLT, Int.reduceToNat, Int.reduceLE, Int.reduceEq, Int.reduceLT, Nat.reduceEqDiff, Nat.reduceAdd, zDk, pd_eql, pd_neq, pd_eql0, pd_neq0]
      refine CW_seq (CW_cond false (by rfl) (fun h => by cases h) (fun _ => CW_exit ?_))
      simp only [zZ, reduceIte, Nat.reduceLT, Int.reduceToNat, Int.reduceLE, Int.reduceEq, Int.reduceLT, Nat.reduceEqDiff, Nat.reduceAdd, zDk, pd_eql, pd_neq, pd_eql0, pd_neq0]
      obtain ⟨s', hr2⟩ := hd'.row
      unfold dskC at hr2
      refine CW_seq (CW_region ?_)
      simp only [zZ, reduceIte, Nat.reduceLT, Int.reduceToNat, Int.reduceLE, Int.reduceEq, Int.reduceLT, Nat.reduceEqDiff, Nat.reduceAdd, zDk, pd_eql, pd_neq, pd_eql0, pd_neq0, hr2, clear_dsk hd'.kv]
      refine CW_seq (CW_region ?_)
      simp only [zZ, reduceIte, Nat.reduceLT, Int.reduceToNat, Int.reduceLE, Int.reduceEq, Int.reduceLT, Nat.reduceEqDiff, Nat.reduceAdd, zDk, pd_eql, pd_neq, pd_eql0, pd_neq0]
      refine CW_ret ?_
      simp only [zZ, reduceIte, Nat.reduceLT, Int.reduceToNat, Int.reduceLE, Int.reduceEq, Int.reduceLT, Nat.reduceEqDiff, Nat.reduceAdd, zDk, pd_eql, pd_neq, pd_eql0, pd_neq0, mEnd, sAnswer, sAnswer.sRes]
      subst hD
      have hok := hd1.ok.synced
      have := hd'.kvTurn (L := []) (c := E.clock) (by rw [syncV_all hdone]; exact hok)
      rw [syncV_all hdone] at this
      refine ⟨_, Thin.refl _, rfl, this, ?_, by rw [Mem.size_set, hs', hs2, hs1]; omega⟩
      refine Only.trans (B := M') ?_ (Only.set (by simp) _)
      refine Only.trans (ho1.mono (by simp)) (fun b x hb hbx => ho' b x ?_ (hold2 b x hbx))
      have := get_live hbx
      simp at hb ⊢
      exact ⟨hb.2.2, by omega⟩
    · have hless := aLeft_less he
      obtain ⟨x, hx, rfl, hns⟩ := aLeft_mem he
      obtain ⟨hx1, hx2⟩ := hd1.ok.within x hx
      simp only at hless ⊢
      obtain ⟨M3, hM3⟩ : ∃ M3, M3 = M'.set r (some (.it false q E.clock (seen ++ [x.2.2]) E.clock)) := ⟨_, rfl⟩
      rw [← hM3]
      have hit3 : M3.get r = some (.it false q E.clock (seen ++ [x.2.2]) E.clock) := by rw [hM3]; exact Mem.get_set_same hit' _
      have hd3 : DskAt M3 p q g { E with old := syncV E.old E.last seen } := by rw [hM3]; exact hd'.only (Only.set (l := [r]) (by simp) _) (by simpa using Ne.symm hrp) (by simpa using Ne.symm hrq) (by simpa using Ne.symm hrg)
      obtain ⟨s3, hr3⟩ := hd3.row
      unfold dskC at hr3
      simp only at hr3
      have hent := entry_dsk (get := M3.get) hit3 hd3.kv hd1.ok.born hx
      simp only [zZ, reduceIte, Nat.reduceLT, Int.reduceToNat, Int.reduceLE, Int.reduceEq, Int.reduceLT, Nat.reduceEqDiff, Nat.reduceAdd, zDk, pd_eql, pd_neq, pd_eql0, pd_neq0]
      refine CW_seq (CW_cond true (by rfl) (fun _ => CW_skip ?_) (fun h => by cases h))
      simp only [zZ, reduceIte, Nat.reduceLT, Int.reduceToNat, Int.reduceLE, Int.reduceEq, Int.reduceLT, Nat.reduceEqDiff, Nat.reduceAdd, zDk, pd_eql, pd_neq, pd_eql0, pd_neq0]
      refine CW_block (CW_seq (CW_region ?_))
      simp only [zZ, reduceIte, Nat.reduceLT, Int.reduceToNat, Int.reduceLE, Int.reduceEq, Int.reduceLT, Nat.reduceEqDiff, Nat.reduceAdd, zDk, pd_eql, pd_neq, pd_eql0, pd_neq0, hent]
      have g0 : (0 : Int) ≤ (x.1 : Int) := by omega
      have g1 : (x.1 : Int) < ((syncV E.old E.last seen).length : Int) := by rw [syncV_len]; omega
      have hput : putIn 1 M3 g x.1 [.string (str x.2.1)] (M3.get g) = some (M3.set g (some (.cells false 1 ((syncV E.old E.last (seen ++ [x.2.2])).map fun s => .string (str s))))) := by
        rw [hd3.old]
        simp only [putIn]
        rw [if_pos ⟨rfl, by simp only [List.length_cons, List.length_nil, List.length_map, syncV_len]; omega, rfl⟩]
        rcases syncV_step (old := E.old) (seen := seen) hd1.ok.keys hx with h1 | ⟨y, hy, hne, hyb⟩
        · rw [← h1]
          simp only [setL, List.map_set]
        · exact absurd (nodup_born hd1.ok.born hy hx hyb) hne
      refine CW_region ?_
      simp only [zZ, reduceIte, Nat.reduceLT, Int.reduceToNat, Int.reduceLE, Int.reduceEq, Int.reduceLT, Nat.reduceEqDiff, Nat.reduceAdd, zDk, pd_eql, pd_neq, pd_eql0, pd_neq0, hr3, g0, g1, and_self, hput]
      refine ⟨[0, 18], ?_⟩
      simp only [zZ, reduceIte, Nat.reduceLT, Int.reduceToNat, Int.reduceLE, Int.reduceEq, Int.reduceLT, Nat.reduceEqDiff, Nat.reduceAdd, keepF]
      refine ⟨_, Thin.refl _, _, ⟨seen ++ [x.2.2], rfl, by rw [Mem.get_set_ne (Ne.symm hrg)]; exact hit3, ?_, ?_, ?_⟩, hless⟩
      · exact ⟨⟨by simp only [syncV_len]; exact hd1.ok.n, by simp only [syncV_len]; exact hd1.ok.pos, fun s hs => syncV_size hd1.ok _ hs, hd1.ok.keys, hd1.ok.born, hd1.ok.clock, fun x hx => by simp only [syncV_len]; exact hd1.ok.within x hx, hd1.ok.fuse, trivial⟩, ⟨s3, by rw [Mem.get_set_ne (Ne.symm hd1.pg), hr3]; simp only [dskC, syncV_len]⟩, by rw [Mem.get_set_ne (Ne.symm hd1.qg)]; exact hd3.kv, Mem.get_set_same hd3.old _, hd1.pq, hd1.pg, hd1.qg⟩
      · exact ho'.trans ((by rw [hM3]; exact Only.set (by simp) _ : Only [g, r] M' M3).trans (Only.set (by simp) _))
      · rw [Mem.size_set, hM3, Mem.size_set, hs']
end Go.Proofs.YtmnebimijlnlkaaGreatDoor
namespace Go.Proofs.YtmnebimijlnlkaaGreatDoor.Sha
abbrev Bytes := List UInt8
def M : Nat := 4294967296
def rotr (x n : Nat) : Nat := (x >>> n) ||| ((x <<< (32 - n)) % 4294967296)
def s0 (x : Nat) : Nat := (rotr x 7 ^^^ rotr x 18) ^^^ (x >>> 3)
def s1 (x : Nat) : Nat := (rotr x 17 ^^^ rotr x 19) ^^^ (x >>> 10)
def big0 (a : Nat) : Nat := (rotr a 2 ^^^ rotr a 13) ^^^ rotr a 22
def big1 (e : Nat) : Nat := (rotr e 6 ^^^ rotr e 11) ^^^ rotr e 25
def ch (e f g : Nat) : Nat := (e &&& f) ^^^ ((4294967295 - e) &&& g)
def maj (a b c : Nat) : Nat := ((a &&& b) ^^^ (a &&& c)) ^^^ (b &&& c)
structure W8 where
  a : Nat
  b : Nat
  c : Nat
  d : Nat
  e : Nat
  f : Nat
  g : Nat
  h : Nat
  deriving DecidableEq
def start : W8 := ⟨0x6a09e667, 0xbb67ae85, 0x3c6ef372, 0xa54ff53a, 0x510e527f, 0x9b05688c, 0x1f83d9ab, 0x5be0cd19⟩
def K : List Nat := [
  0x428a2f98, 0x71374491, 0xb5c0fbcf, 0xe9b5dba5, 0x3956c25b, 0x59f111f1, 0x923f82a4, 0xab1c5ed5, 0xd807aa98, 0x12835b01, 0x243185be, 0x550c7dc3, 0x72be5d74, 0x80deb1fe, 0x9bdc06a7, 0xc19bf174,
  0xe49b69c1, 0xefbe4786, 0x0fc19dc6, 0x240ca1cc, 0x2de92c6f, 0x4a7484aa, 0x5cb0a9dc, 0x76f988da, 0x983e5152, 0xa831c66d, 0xb00327c8, 0xbf597fc7, 0xc6e00bf3, 0xd5a79147, 0x06ca6351, 0x14292967,
  0x27b70a85, 0x2e1b2138, 0x4d2c6dfc, 0x53380d13, 0x650a7354, 0x766a0abb, 0x81c2c92e, 0x92722c85, 0xa2bfe8a1, 0xa81a664b, 0xc24b8b70, 0xc76c51a3, 0xd192e819, 0xd6990624, 0xf40e3585, 0x106aa070,
  0x19a4c116, 0x1e376c08, 0x2748774c, 0x34b0bcb5, 0x391c0cb3, 0x4ed8aa4a, 0x5b9cca4f, 0x682e6ff3, 0x748f82ee, 0x78a5636f, 0x84c87814, 0x8cc70208, 0x90befffa, 0xa4506ceb, 0xbef9a3f7, 0xc67178f2]
def turn (v : W8) (k w : Nat) : W8 :=
  let t1 := (v.h + big1 v.e + ch v.e v.f v.g + k + w) % 4294967296
  let t2 := (big0 v.a + maj v.a v.b v.c) % 4294967296
  ⟨(t1 + t2) % 4294967296, v.a, v.b, v.c, (v.d + t1) % 4294967296, v.e, v.f, v.g⟩
def beWord (b : Bytes) (i : Nat) : Nat := (b.getD (4 * i) 0).toNat * 16777216 + (b.getD (4 * i + 1) 0).toNat * 65536 + (b.getD (4 * i + 2) 0).toNat * 256 + (b.getD (4 * i + 3) 0).toNat
def nextW (w : List Nat) (t : Nat) : Nat := (w.getD (t - 16) 0 + s0 (w.getD (t - 15) 0) + w.getD (t - 7) 0 + s1 (w.getD (t - 2) 0)) % 4294967296
def sched (b : Bytes) : Nat → List Nat
  | 0 => []
  | t + 1 => let w := sched b t; w ++ [if t < 16 then beWord b t else nextW w t]
def rounds (h : W8) (w : List Nat) : Nat → W8
  | 0 => h
  | t + 1 => turn (rounds h w t) (K.getD t 0) (w.getD t 0)
def W8.plus (x y : W8) : W8 :=
  ⟨(x.a + y.a) % 4294967296, (x.b + y.b) % 4294967296, (x.c + y.c) % 4294967296, (x.d + y.d) % 4294967296, (x.e + y.e) % 4294967296, (x.f + y.f) % 4294967296, (x.g + y.g) % 4294967296, (x.h + y.h) % 4294967296⟩
def mix (h : W8) (b : Bytes) : W8 := h.plus (rounds h (sched b 64) 64)
def blocksN (h : W8) (l : Bytes) : Nat → W8
  | 0 => h
  | k + 1 => blocksN (mix h (l.take 64)) (l.drop 64) k
def blocks (h : W8) (l : Bytes) : W8 := blocksN h l (l.length / 64)
def rest (l : Bytes) : Bytes := l.drop (64 * (l.length / 64))
def zeros (n : Nat) : Nat := (56 + 64 - n % 64) % 64
def be8 (n : Nat) : Bytes := [UInt8.ofNat (n >>> 56), UInt8.ofNat (n >>> 48), UInt8.ofNat (n >>> 40), UInt8.ofNat (n >>> 32), UInt8.ofNat (n >>> 24), UInt8.ofNat (n >>> 16), UInt8.ofNat (n >>> 8), UInt8.ofNat n]
def tail (n : Nat) : Bytes := 0x80 :: (List.replicate (zeros (n + 1)) 0 ++ be8 (8 * n))
def be4 (n : Nat) : Bytes := [UInt8.ofNat (n >>> 24), UInt8.ofNat (n >>> 16), UInt8.ofNat (n >>> 8), UInt8.ofNat n]
def W8.bytes (v : W8) : Bytes := be4 v.a ++ be4 v.b ++ be4 v.c ++ be4 v.d ++ be4 v.e ++ be4 v.f ++ be4 v.g ++ be4 v.h
def sum (l : Bytes) : Bytes := (blocks start (l ++ tail l.length)).bytes
theorem sum_length (l : Bytes) : (sum l).length = 32 := by simp [sum, W8.bytes, be4]
theorem blocksN_append : ∀ (k : Nat) (h : W8) (l r : Bytes), 64 * k ≤ l.length → blocksN h (l ++ r) k = blocksN h l k
  | 0, _, _, _, _ => rfl
  | k + 1, h, l, r, hk => by
    simp only [blocksN]
    rw [List.take_append_of_le_length (by omega), List.drop_append_of_le_length (by omega)]
    exact blocksN_append k _ _ _ (by simp; omega)
theorem blocksN_add : ∀ (j k : Nat) (h : W8) (l : Bytes), blocksN h l (j + k) = blocksN (blocksN h l j) (l.drop (64 * j)) k
  | 0, k, h, l => by simp [blocksN]
  | j + 1, k, h, l => by
    rw [show j + 1 + k = (j + k) + 1 from by omega]
    simp only [blocksN]
    rw [blocksN_add j k, List.drop_drop]
    congr 2
    omega
theorem blocksN_succ (k : Nat) (h : W8) (l : Bytes) : blocksN h l (k + 1) = mix (blocksN h l k) ((l.drop (64 * k)).take 64) := by
  rw [blocksN_add]; rfl
theorem rest_length (l : Bytes) : (rest l).length = l.length % 64 := by simp [rest]; omega
theorem blocks_append (h : W8) (l r : Bytes) : blocks h (l ++ r) = blocks (blocks h l) (rest l ++ r) := by
  have e : (l ++ r).length / 64 = l.length / 64 + ((rest l ++ r).length) / 64 := by simp [rest_length]; omega
  unfold blocks
  rw [e, blocksN_add, blocksN_append _ _ _ _ (by omega)]
  congr 1
  rw [List.drop_append_of_le_length (by omega)]
  rfl
theorem rest_append (l r : Bytes) : rest (l ++ r) = rest (rest l ++ r) := by
  have e : (l ++ r).length / 64 = l.length / 64 + ((rest l ++ r).length) / 64 := by simp [rest_length]; omega
  show (l ++ r).drop (64 * ((l ++ r).length / 64)) = (rest l ++ r).drop (64 * ((rest l ++ r).length / 64))
  rw [e, Nat.mul_add, ← List.drop_drop, List.drop_append_of_le_length (by omega)]
  rfl
theorem sum_eq (l : Bytes) : sum l = (blocks (blocks start l) (rest l ++ tail l.length)).bytes := by rw [sum, blocks_append]
theorem sched_length (b : Bytes) : ∀ t, (sched b t).length = t
  | 0 => rfl
  | t + 1 => by simp [sched, sched_length b t]
theorem sched_take (b : Bytes) (t : Nat) : ∀ u, t ≤ u → (sched b u).take t = sched b t
  | 0, h => by
    have e : t = 0 := by omega
    rw [e]; rfl
  | u + 1, h => by
    by_cases e : t = u + 1
    · subst e; rw [List.take_of_length_le (by rw [sched_length]; omega)]
    · simp only [sched]
      rw [List.take_append_of_le_length (by rw [sched_length]; omega)]
      exact sched_take b t u (by omega)
theorem sched_getD (b : Bytes) (t u : Nat) (h : t < u) : (sched b u).getD t 0 = if t < 16 then beWord b t else nextW (sched b t) t := by
  have h1 := sched_take b (t + 1) u h
  have h2 : ((sched b u).take (t + 1)).getD t 0 = (sched b u).getD t 0 := by simp [List.getD, List.getElem?_take]
  rw [← h2, h1]
  simp [sched, List.getD, sched_length]
theorem or_lt {x y : Nat} (hx : x < 4294967296) (hy : y < 4294967296) : x ||| y < 4294967296 := Nat.or_lt_two_pow (n := 32) hx hy
theorem xor_lt {x y : Nat} (hx : x < 4294967296) (hy : y < 4294967296) : x ^^^ y < 4294967296 := Nat.xor_lt_two_pow (n := 32) hx hy
theorem and_lt {x y : Nat} (hx : x < 4294967296) : x &&& y < 4294967296 := Nat.lt_of_le_of_lt Nat.and_le_left hx
theorem shr_lt {x n : Nat} (hx : x < 4294967296) : x >>> n < 4294967296 := Nat.lt_of_le_of_lt (Nat.shiftRight_le _ _) hx
theorem rotr_lt {x n : Nat} (hx : x < 4294967296) : rotr x n < 4294967296 := or_lt (shr_lt hx) (Nat.mod_lt _ (by decide))
theorem byte_lt (b : UInt8) : b.toNat < 256 := b.toNat_lt
theorem beWord_lt (b : Bytes) (i : Nat) : beWord b i < 4294967296 := by
  unfold beWord
  have := byte_lt (b.getD (4 * i) 0); have := byte_lt (b.getD (4 * i + 1) 0); have := byte_lt (b.getD (4 * i + 2) 0); have := byte_lt (b.getD (4 * i + 3) 0)
  omega
theorem nextW_lt (w : List Nat) (t : Nat) : nextW w t < 4294967296 := Nat.mod_lt _ (by decide)
theorem sched_lt (b : Bytes) (t u : Nat) : (sched b u).getD t 0 < 4294967296 := by
  by_cases h : t < u
  · rw [sched_getD b t u h]; split
    · exact beWord_lt _ _
    · exact nextW_lt _ _
  · rw [List.getD_eq_getElem?_getD, List.getElem?_eq_none (by rw [sched_length]; omega)]; decide
theorem K_lt (t : Nat) : K.getD t 0 < 4294967296 := by
  by_cases h : t < 64
  · have : ∀ t : Fin 64, K.getD t.val 0 < 4294967296 := by decide
    exact this ⟨t, h⟩
  · rw [List.getD_eq_getElem?_getD, List.getElem?_eq_none (by simp [K]; omega)]; decide
structure W8.Fit (v : W8) : Prop where
  a : v.a < 4294967296
  b : v.b < 4294967296
  c : v.c < 4294967296
  d : v.d < 4294967296
  e : v.e < 4294967296
  f : v.f < 4294967296
  g : v.g < 4294967296
  h : v.h < 4294967296
theorem start_fit : start.Fit := by constructor <;> decide
theorem turn_fit {v : W8} (h : v.Fit) (k w : Nat) : (turn v k w).Fit := ⟨Nat.mod_lt _ (by decide), h.a, h.b, h.c, Nat.mod_lt _ (by decide), h.e, h.f, h.g⟩
theorem rounds_fit {h : W8} (hf : h.Fit) (w : List Nat) : ∀ t, (rounds h w t).Fit
  | 0 => hf
  | t + 1 => turn_fit (rounds_fit hf w t) _ _
theorem plus_fit (x y : W8) : (x.plus y).Fit := by constructor <;> exact Nat.mod_lt _ (by decide)
theorem mix_fit (h : W8) (b : Bytes) : (mix h b).Fit := plus_fit _ _
theorem blocksN_fit : ∀ (k : Nat) {h : W8} (l : Bytes), h.Fit → (blocksN h l k).Fit
  | 0, _, _, hf => hf
  | k + 1, _, _, _ => blocksN_fit k _ (mix_fit _ _)
theorem blocks_fit {h : W8} (l : Bytes) (hf : h.Fit) : (blocks h l).Fit := blocksN_fit _ _ hf
example : sum [] = [0xe3, 0xb0, 0xc4, 0x42, 0x98, 0xfc, 0x1c, 0x14, 0x9a, 0xfb, 0xf4, 0xc8, 0x99, 0x6f, 0xb9, 0x24, 0x27, 0xae, 0x41, 0xe4, 0x64, 0x9b, 0x93, 0x4c, 0xa4, 0x95, 0x99, 0x1b, 0x78, 0x52, 0xb8, 0x55] := by decide +kernel
end Go.Proofs.YtmnebimijlnlkaaGreatDoor.Sha
namespace Go.Proofs.YtmnebimijlnlkaaGreatDoor
open Go.RowKit
theorem rotr_bits (x n : Nat) (hx : x < 4294967296) (hn : n < 32) :
    bits BinOp.or IntKind.u32 ((x : Int) / 2 ^ n) ((x : Int) * 2 ^ (32 - n) % 4294967296) = (Sha.rotr x n : Nat) := by
  have e1 : ((x : Int) / 2 ^ n) = ((x >>> n : Nat) : Int) := by rw [Nat.shiftRight_eq_div_pow]; simp
  have e2 : ((x : Int) * 2 ^ (32 - n) % 4294967296) = (((x <<< (32 - n)) % 4294967296 : Nat) : Int) := by rw [Nat.shiftLeft_eq]; simp
  rw [e1, e2, u32_or_nat _ _ (Sha.shr_lt hx) (Nat.mod_lt _ (by decide))]
  rfl
set_option maxHeartbeats 400000 in
theorem turn_any (x n : Nat) (hx : x < 4294967296) (hn : n < 32) (w : World) :
    Calls Tryz.prog 202 #[.int .u32 x, .int .i64 n] w fun e w' => e = .returned (.int .u32 (Sha.rotr x n)) ∧ ∃ k, w' = w.drewN k := by
  have e := rotr_bits x n hx hn
  go_enter Tryz.func202, Tryz.ntmps202
  go_wp2
  go_quiet (fail)
  go_wp2
  go_ret
  exact ⟨rfl, _, rfl⟩
theorem turn_i (x : Nat) (b : Int) (hx : x < 4294967296) (h0 : 0 ≤ b) (hb : b < 32) (w : World) :
    Calls Tryz.prog 202 #[.int .u32 x, .int .i64 b] w fun e w' => e = .returned (.int .u32 (Sha.rotr x b.toNat)) ∧ ∃ k, w' = w.drewN k := by
  obtain ⟨n, rfl⟩ := Int.eq_ofNat_of_zero_le h0
  rw [Int.toNat_natCast]
  exact turn_any x n hx (by omega) w
def u32s (l : List Nat) : List Value := l.map fun (n : Nat) => Value.int .u32 n
def bytesS : Shape UInt8 := Shape.flat 1 (fun b => [.int .u8 b.toNat]) (fun _ => rfl)
theorem ElemsAt.byte {w : World} {a : Option Addr} {cap : Nat} {l : List UInt8} (h : ElemsAt bytesS w a cap l) {i : Nat} (hi : i < l.length) :
    ∃ b off, a = some ⟨b, off, none⟩ ∧ b < w.heap.size ∧ w.cell? ⟨b, off + i, none⟩ = some (.int .u8 (l.getD i 0).toNat) := by
  obtain ⟨b, off, rfl, hb, cs, rfl, hc⟩ := h.at hi
  refine ⟨b, off, rfl, hb, ?_⟩
  have := hc 0 _ rfl
  simpa [bytesS, Shape.flat, List.getD, List.getElem?_eq_getElem hi] using this
theorem fill_set (xs : List Value) (t : Nat) (z v : Value) (n : Nat) (hx : xs.length = t) (hn : t < n) :
    (xs ++ List.replicate (n - t) z).toArray.setIfInBounds t v = (xs ++ [v] ++ List.replicate (n - (t + 1)) z).toArray := by
  apply Array.ext'
  rw [Array.toList_setIfInBounds]
  subst hx
  obtain ⟨k, hk⟩ : ∃ k, n - xs.length = k + 1 := ⟨n - xs.length - 1, by omega⟩
  rw [hk, show n - (xs.length + 1) = k by omega, List.replicate_succ]
  simp [List.set_append]
theorem u32s_sched (b : Sha.Bytes) (t : Nat) : u32s (Sha.sched b t) ++ [Value.int .u32 ((if t < 16 then Sha.beWord b t else Sha.nextW (Sha.sched b t) t : Nat) : Int)] = u32s (Sha.sched b (t + 1)) := by
  simp [u32s, Sha.sched]
theorem or_add (a b n : Nat) (h : b < 2 ^ n) : (a * 2 ^ n) ||| b = a * 2 ^ n + b := by
  rw [← Nat.shiftLeft_eq, Nat.shiftLeft_add_eq_or_of_lt h]
theorem be_bits (a b c d : Nat) (ha : a < 256) (hb : b < 256) (hc : c < 256) (hd : d < 256) :
    bits BinOp.or IntKind.u32 (bits BinOp.or IntKind.u32 (bits BinOp.or IntKind.u32 ((a : Int) % 4294967296 * 16777216 % 4294967296) ((b : Int) % 4294967296 * 65536 % 4294967296)) ((c : Int) % 4294967296 * 256 % 4294967296)) ((d : Int) % 4294967296)
      = ((a * 16777216 + b * 65536 + c * 256 + d : Nat) : Int) := by
  have w : ∀ n : Int, 0 ≤ n → n < 4294967296 → n % 4294967296 = n := fun n h0 h1 => by omega
  rw [w a (by omega) (by omega), w b (by omega) (by omega), w c (by omega) (by omega), w d (by omega) (by omega), w _ (by omega) (by omega), w _ (by omega) (by omega), w _ (by omega) (by omega)]
  rw [show ((a : Int) * 16777216) = ((a * 16777216 : Nat) : Int) by simp, show ((b : Int) * 65536) = ((b * 65536 : Nat) : Int) by simp, show ((c : Int) * 256) = ((c * 256 : Nat) : Int) by simp]
  have o1 : (a * 16777216) ||| (b * 65536) = a * 16777216 + b * 65536 := or_add a (b * 65536) 24 (by omega)
  have o2 : (a * 16777216 + b * 65536) ||| (c * 256) = a * 16777216 + b * 65536 + c * 256 := by
    have := or_add (a * 256 + b) (c * 256) 16 (by omega)
    rw [show (a * 256 + b) * 2 ^ 16 = a * 16777216 + b * 65536 by omega] at this
    exact this
  have o3 : (a * 16777216 + b * 65536 + c * 256) ||| d = a * 16777216 + b * 65536 + c * 256 + d := by
    have := or_add (a * 65536 + b * 256 + c) d 8 (by omega)
    rw [show (a * 65536 + b * 256 + c) * 2 ^ 8 = a * 16777216 + b * 65536 + c * 256 by omega] at this
    exact this
  rw [u32_or_nat _ _ (by omega) (by omega), o1, u32_or_nat _ _ (by omega) (by omega), o2, u32_or_nat _ _ (by omega) (by omega), o3]
theorem xor3_bits (a b c : Nat) (ha : a < 4294967296) (hb : b < 4294967296) (hc : c < 4294967296) :
    bits BinOp.xor IntKind.u32 (bits BinOp.xor IntKind.u32 (a : Int) (b : Int)) (c : Int) = (((a ^^^ b) ^^^ c : Nat) : Int) := by
  rw [u32_xor_nat _ _ ha hb, u32_xor_nat _ _ (Sha.xor_lt ha hb) hc]
theorem next_bits (x16 x15 x7 x2 : Nat) (h15 : x15 < 4294967296) (h2 : x2 < 4294967296) :
    ((x16 : Int) + bits BinOp.xor IntKind.u32 (bits BinOp.xor IntKind.u32 ((Sha.rotr x15 7 : Nat) : Int) ((Sha.rotr x15 18 : Nat) : Int)) ((x15 : Int) / 8) + x7 +
      bits BinOp.xor IntKind.u32 (bits BinOp.xor IntKind.u32 ((Sha.rotr x2 17 : Nat) : Int) ((Sha.rotr x2 19 : Nat) : Int)) ((x2 : Int) / 1024)) % 4294967296 = (((x16 + Sha.s0 x15 + x7 + Sha.s1 x2) % 4294967296 : Nat) : Int) := by
  have e2 : ∀ y : Nat, (y : Int) / (8 : Int) = ((y >>> 3 : Nat) : Int) := fun y => by rw [Nat.shiftRight_eq_div_pow]; omega
  have e3 : ∀ y : Nat, (y : Int) / (1024 : Int) = ((y >>> 10 : Nat) : Int) := fun y => by rw [Nat.shiftRight_eq_div_pow]; omega
  rw [e2, e3]
  rw [xor3_bits _ _ _ (Sha.rotr_lt h15) (Sha.rotr_lt h15) (Sha.shr_lt h15), xor3_bits _ _ _ (Sha.rotr_lt h2) (Sha.rotr_lt h2) (Sha.shr_lt h2)]
  have e0 : (Sha.rotr x15 7 ^^^ Sha.rotr x15 18) ^^^ (x15 >>> 3) = Sha.s0 x15 := rfl
  have e1 : (Sha.rotr x2 17 ^^^ Sha.rotr x2 19) ^^^ (x2 >>> 10) = Sha.s1 x2 := rfl
  rw [e0, e1]
  omega
set_option maxRecDepth 100000 in
set_option maxHeartbeats 1000000 in
theorem words_any (b off cap : Nat) (l : List UInt8) (hl : l.length = 64) (w : World) (he : ElemsAt bytesS w (some ⟨b, off, none⟩) cap l) :
    Calls Tryz.prog 201 #[.slice (some ⟨b, off, none⟩) 64 cap] w fun e w' => e = .returned (.agg (u32s (Sha.sched l 64)).toArray) ∧ Below w.heap.size w w' := by
  go_enter Tryz.func201, Tryz.ntmps201
  go_wp2
  go_loopw [8] (fun i wr => ∃ t : Nat, t ≤ 16 ∧ i = .int .i64 t ∧ Below w.heap.size w wr ∧ wr.heap[w.heap.size + 1]? = some (.cells (u32s (Sha.sched l t) ++ List.replicate (64 - t) (Value.int .u32 0)).toArray 263 (0, 0)) ∧ wr.heap[w.heap.size]? = some (.cells (List.replicate 64 (Value.int .u32 0)).toArray 263 (0, 0))) (fun i _ => 16 - (intOf i).toNat)
  case atStart => exact ⟨0, by omega, rfl, ((Below.refl _ _).alloc (Nat.le_refl _) _).alloc (by simp) _, heap_alloc_at (by simp) _, heap_alloc_old (heap_alloc_new _ _)⟩
  case round =>
    obtain ⟨t, ht, rfl, hb, hg, hz⟩ := hrel
    have hz' := Lib.hid hz
    clear hz
    by_cases hlt : t < 16
    · have hg' := Lib.hid hg
      have hb' := Lib.hid hb
      have he' := Lib.hid he
      clear hg hb he
      go_wp2
      refine region_tail 35 (by kernel_rfl) (by kernel_rfl) fun w2 hs => ?_
      simp only [List.take_succ_cons, List.take_zero, List.drop_succ_cons, List.drop_zero]
      have hb2 := hb'.out.trans (hs.below _)
      obtain ⟨b', off', e0, hbb, c0⟩ := (he'.out.mono hb2).byte (i := 4 * t) (by omega)
      obtain ⟨b', off', e1, _, c1⟩ := (he'.out.mono hb2).byte (i := 4 * t + 1) (by omega)
      obtain ⟨b', off', e2, _, c2⟩ := (he'.out.mono hb2).byte (i := 4 * t + 2) (by omega)
      obtain ⟨b', off', e3, _, c3⟩ := (he'.out.mono hb2).byte (i := 4 * t + 3) (by omega)
      simp only [Option.some.injEq, Addr.mk.injEq, and_true] at e0 e1 e2 e3
      obtain ⟨rfl, rfl⟩ := e0
      obtain ⟨rfl, rfl⟩ := e1
      obtain ⟨rfl, rfl⟩ := e2
      obtain ⟨rfl, rfl⟩ := e3
      have hg2 := Lib.hid (hs.at hg'.out)
      have hz2 := Lib.hid (hs.at hz'.out)
      clear hs hb'
      have HB2 := Lib.hid hb2
      clear hb2
      obtain ⟨a0, e0⟩ : ∃ a : Nat, a = (l.getD (4 * t) 0).toNat := ⟨_, rfl⟩
      obtain ⟨a1, e1⟩ : ∃ a : Nat, a = (l.getD (4 * t + 1) 0).toNat := ⟨_, rfl⟩
      obtain ⟨a2, e2⟩ : ∃ a : Nat, a = (l.getD (4 * t + 2) 0).toNat := ⟨_, rfl⟩
      obtain ⟨a3, e3⟩ : ∃ a : Nat, a = (l.getD (4 * t + 3) 0).toNat := ⟨_, rfl⟩
      rw [← e0] at c0
      rw [← e1] at c1
      rw [← e2] at c2
      rw [← e3] at c3
      have hw : Hid (((Sha.beWord l t : Nat) : Int) = bits BinOp.or IntKind.u32 (bits BinOp.or IntKind.u32 (bits BinOp.or IntKind.u32 ((a0 : Int) % 4294967296 * 16777216 % 4294967296) ((a1 : Int) % 4294967296 * 65536 % 4294967296)) ((a2 : Int) % 4294967296 * 256 % 4294967296)) ((a3 : Int) % 4294967296)) := by
        rw [be_bits a0 a1 a2 a3 (by rw [e0]; exact UInt8.toNat_lt _) (by rw [e1]; exact UInt8.toNat_lt _) (by rw [e2]; exact UInt8.toNat_lt _) (by rw [e3]; exact UInt8.toNat_lt _), e0, e1, e2, e3]
        rfl
      clear e0 e1 e2 e3
      obtain ⟨x0, y0, z0⟩ := idx (4 * (t : Int)) (4 * t) (by omega) (by omega)
      obtain ⟨x1, y1, z1⟩ := idx (4 * (t : Int) + 1) (4 * t + 1) (by omega) (by omega)
      obtain ⟨x2, y2, z2⟩ := idx (4 * (t : Int) + 2) (4 * t + 2) (by omega) (by omega)
      obtain ⟨x3, y3, z3⟩ := idx (4 * (t : Int) + 3) (4 * t + 3) (by omega) (by omega)
      have l0 : 4 * (t : Int) < 64 := by omega
      have l1 : 4 * (t : Int) + 1 < 64 := by omega
      have l2 : 4 * (t : Int) + 2 < 64 := by omega
      have l3 : 4 * (t : Int) + 3 < 64 := by omega
      have l4 : (t : Int) < 64 := by omega
      have fz := frozen_of hg2.out t
      have cz : w2.cell? ⟨w.heap.size + 1, t, none⟩ = some (.int .u32 0) := by
        rw [cell_of hg2.out]
        have e : (u32s (Sha.sched l t)).length = t := by simp [u32s, Sha.sched_length]
        rw [List.getElem?_toArray, List.getElem?_append_right (by omega), e, List.getElem?_replicate, if_pos (by omega)]
      repeat still_step
      refine wpStill_nil ?_
      go_wp2
      go_roundw
      case rel =>
        refine ⟨t + 1, by omega, by go_num, HB2.out.setCell (by simp) _, ?_, by rw [heap_setCell_ne (by simp)]; exact hz2.out⟩
        rw [heap_setCell hg2.out, fill_set _ _ _ _ _ (by simp [u32s, Sha.sched_length]) (by omega), ← hw.out, ← u32s_sched, if_pos hlt]
      case measure => simp [intOf]; omega
    · have e16 : t = 16 := by omega
      rw [e16] at hg
      clear e16
      have hg' := Lib.hid hg
      have hb' := Lib.hid hb
      clear hg hb he
      go_wp2
      go_loopw [5] (fun i wr => ∃ t : Nat, 16 ≤ t ∧ t ≤ 64 ∧ i = .int .i64 t ∧ Below w.heap.size w wr ∧ wr.heap[w.heap.size + 1]? = some (.cells (u32s (Sha.sched l t) ++ List.replicate (64 - t) (Value.int .u32 0)).toArray 263 (0, 0)) ∧ wr.heap[w.heap.size]? = some (.cells (List.replicate 64 (Value.int .u32 0)).toArray 263 (0, 0))) (fun i _ => 64 - (intOf i).toNat)
      case atStart => exact ⟨16, by omega, by omega, rfl, hb'.out, hg'.out, hz'.out⟩
      case round =>
        clear hz'
        obtain ⟨t, ht1, ht2, rfl, hb, hg, hz⟩ := hrel
        have hz' := Lib.hid hz
        clear hg' hb' hz
        by_cases hlt : t < 64
        · have hgd : ∀ k, k < t → wr.cell? ⟨w.heap.size + 1, k, none⟩ = some (.int .u32 ((Sha.sched l t).getD k 0 : Nat)) := by
            intro k hk
            rw [cell_of hg]
            have e : (u32s (Sha.sched l t)).length = t := by simp [u32s, Sha.sched_length]
            rw [List.getElem?_toArray, List.getElem?_append_left (by omega)]
            have : k < (Sha.sched l t).length := by rw [Sha.sched_length]; omega
            simp [u32s, this]
          have c15 := hgd (t - 15) (by omega)
          have c2 := hgd (t - 2) (by omega)
          have c16 := hgd (t - 16) (by omega)
          have c7 := hgd (t - 7) (by omega)
          have f15 := Sha.sched_lt l (t - 15) t
          have f2 := Sha.sched_lt l (t - 2) t
          have f16 := Sha.sched_lt l (t - 16) t
          have f7 := Sha.sched_lt l (t - 7) t
          obtain ⟨X15, e15⟩ : ∃ a : Nat, a = (Sha.sched l t).getD (t - 15) 0 := ⟨_, rfl⟩
          obtain ⟨X2, e2⟩ : ∃ a : Nat, a = (Sha.sched l t).getD (t - 2) 0 := ⟨_, rfl⟩
          obtain ⟨X16, e16⟩ : ∃ a : Nat, a = (Sha.sched l t).getD (t - 16) 0 := ⟨_, rfl⟩
          obtain ⟨X7, e7⟩ : ∃ a : Nat, a = (Sha.sched l t).getD (t - 7) 0 := ⟨_, rfl⟩
          rw [← e15] at c15 f15
          rw [← e2] at c2 f2
          rw [← e16] at c16 f16
          rw [← e7] at c7 f7
          have hw : Hid (Sha.nextW (Sha.sched l t) t = (X16 + Sha.s0 X15 + X7 + Sha.s1 X2) % 4294967296) := by simp only [Hid, Sha.nextW, e15, e2, e16, e7]
          clear e15 e2 e16 e7 hgd
          have hg' := Lib.hid hg
          have hb' := Lib.hid hb
          clear hg hb
          obtain ⟨x15, y15, z15⟩ := idx ((t : Int) - 15) (t - 15) (by omega) (by omega)
          obtain ⟨x2, y2, z2⟩ := idx ((t : Int) - 2) (t - 2) (by omega) (by omega)
          obtain ⟨x16, y16, z16⟩ := idx ((t : Int) - 16) (t - 16) (by omega) (by omega)
          obtain ⟨x7, y7, z7⟩ := idx ((t : Int) - 7) (t - 7) (by omega) (by omega)
          have l15 : (t : Int) - 15 < 64 := by omega
          have l2 : (t : Int) - 2 < 64 := by omega
          have l16 : (t : Int) - 16 < 64 := by omega
          have l7 : (t : Int) - 7 < 64 := by omega
          have l0 : (t : Int) < 64 := by omega
          have m16 : (16 : Int) ≤ t := by omega
          have m7 : (7 : Int) ≤ t := by omega
          go_wp2
          go_quiet ((go_at_call 202; exact Calls.quiet_of (turn_i _ _ f15 (by decide) (by decide) _)))
          go_wp2
          go_quiet ((go_at_call 202; exact quiet_add (turn_i _ _ f2 (by decide) (by decide) _)))
          go_wp2
          refine region_tail 15 (by kernel_rfl) (by kernel_rfl) fun w2 hs => ?_
          simp only [List.take_succ_cons, List.take_zero, List.drop_succ_cons, List.drop_zero]
          have hs' := (Same.drewN wr _).trans ((Same.drewN _ _).trans hs)
          have hb2 := Lib.hid (hb'.out.trans (hs'.below _))
          have hg2 := Lib.hid (hs'.at hg'.out)
          have hz2 := Lib.hid (hs'.at hz'.out)
          replace c16 := hs'.cell c16
          replace c7 := hs'.cell c7
          have fz := frozen_of hg2.out t
          have cz : w2.cell? ⟨w.heap.size + 1, t, none⟩ = some (.int .u32 0) := by
            rw [cell_of hg2.out]
            have e : (u32s (Sha.sched l t)).length = t := by simp [u32s, Sha.sched_length]
            rw [List.getElem?_toArray, List.getElem?_append_right (by omega), e, List.getElem?_replicate, if_pos (by omega)]
          clear hs hs' c15 c2 hg' hb'
          repeat still_step
          refine wpStill_nil ?_
          go_wp2
          go_roundw
          case rel =>
            refine ⟨t + 1, by omega, by omega, by go_num, hb2.out.setCell (by simp) _, ?_, by rw [heap_setCell_ne (by simp)]; exact hz2.out⟩
            rw [heap_setCell hg2.out, fill_set _ _ _ _ _ (by simp [u32s, Sha.sched_length]) (by omega), ← u32s_sched, if_neg (by omega), hw.out, ← next_bits _ _ _ _ f15 f2]
          case measure => simp [intOf]; omega
        · have e64 : t = 64 := by omega
          rw [e64, Nat.sub_self, List.replicate_zero, List.append_nil] at hg
          have hsz : (u32s (Sha.sched l 64)).length = 64 := by simp [u32s, Sha.sched_length]
          have hone : ((u32s (Sha.sched l 64)).toArray.all (·.oneCell')) = true := by simp [u32s, Value.oneCell']
          generalize hC : (u32s (Sha.sched l 64)).toArray = C at *
          have hCs : C.size = 64 := by rw [← hC]; simpa using hsz
          have hC' := Lib.hid hC
          have hCs' := Lib.hid hCs
          have hone' := Lib.hid hone
          have hg' := Lib.hid hg
          have hb' := Lib.hid hb
          clear hg hb hC hCs hone e64 hsz
          go_wp2_with (refine wpList_load_row rfl 263 _ rfl (w.heap.size + 1) rfl 263 C (0, 0) _ hg'.out Tryz.underlying263 rfl (by rw [hCs'.out]; kernel_rfl) ?_; go_must (refine wpList_store_row rfl 263 _ _ rfl w.heap.size C rfl rfl 263 (List.replicate 64 (Value.int .u32 0)).toArray hz'.out ?s1 ?s2 hone'.out ?_))
          case s1 => rw [hCs'.out]; kernel_rfl
          case s2 => rw [hCs'.out]; rfl
          have hW := setRow_heap wr w.heap.size (List.replicate 64 (Value.int .u32 0)).toArray C 263 (0, 0) hz'.out
          have hB := below_setRow hb'.out (Nat.le_refl w.heap.size) C
          generalize wr.setRow w.heap.size C = wz at *
          refine bodyPost_ret (v := .agg C) ?r ?d ?fin
          case fin => exact ⟨by rw [hC'.out], hB⟩
          case d => rfl
          case r =>
            refine results_cell_row Tryz.results201 _ _ w.heap.size 263 C (0, 0) _ ?_ hW Tryz.underlying263 rfl ?_
            · rfl
            · rw [hCs'.out]; kernel_rfl
end Go.Proofs.YtmnebimijlnlkaaGreatDoor
namespace Go.Proofs.YtmnebimijlnlkaaGreatDoor
open Go.RowKit
def kc : List Value := [.int .u32 1116352408, .int .u32 1899447441, .int .u32 3049323471, .int .u32 3921009573, .int .u32 961987163, .int .u32 1508970993, .int .u32 2453635748, .int .u32 2870763221, .int .u32 3624381080, .int .u32 310598401, .int .u32 607225278, .int .u32 1426881987, .int .u32 1925078388, .int .u32 2162078206, .int .u32 2614888103, .int .u32 3248222580, .int .u32 3835390401, .int .u32 4022224774, .int .u32 264347078, .int .u32 604807628, .int .u32 770255983, .int .u32 1249150122, .int .u32 1555081692, .int .u32 1996064986, .int .u32 2554220882, .int .u32 2821834349, .int .u32 2952996808, .int .u32 3210313671, .int .u32 3336571891, .int .u32 3584528711, .int .u32 113926993, .int .u32 338241895, .int .u32 666307205, .int .u32 773529912, .int .u32 1294757372, .int .u32 1396182291, .int .u32 1695183700, .int .u32 1986661051, .int .u32 2177026350, .int .u32 2456956037, .int .u32 2730485921, .int .u32 2820302411, .int .u32 3259730800, .int .u32 3345764771, .int .u32 3516065817, .int .u32 3600352804, .int .u32 4094571909, .int .u32 275423344, .int .u32 430227734, .int .u32 506948616, .int .u32 659060556, .int .u32 883997877, .int .u32 958139571, .int .u32 1322822218, .int .u32 1537002063, .int .u32 1747873779, .int .u32 1955562222, .int .u32 2024104815, .int .u32 2227730452, .int .u32 2361852424, .int .u32 2428436474, .int .u32 2756734187, .int .u32 3204031479, .int .u32 3329325298]
theorem kc_eq : kc = Sha.K.map fun (n : Nat) => Value.int .u32 n := rfl
theorem kc_one : (kc.toArray.all (·.oneCell')) = true := by simp [kc_eq, Value.oneCell']
theorem kc_get (i : Nat) (hi : i < 64) : kc.toArray[i]? = some (.int .u32 (Sha.K.getD i 0 : Nat)) := by
  have : i < Sha.K.length := by simpa [Sha.K] using hi
  simp only [kc_eq, List.getElem?_toArray, List.getElem?_map, List.getD, List.getElem?_eq_getElem this]
  rfl
set_option maxRecDepth 100000 in
set_option maxHeartbeats 1000000 in
theorem round_any (i : Nat) (hi : i < 64) (w : World) :
    Calls Tryz.prog 203 #[.int .i64 i] w fun e w' => e = .returned (.int .u32 (Sha.K.getD i 0)) ∧ Below w.heap.size w w' := by
  have hk := kc_get i hi
  obtain ⟨k, hk2⟩ : ∃ k, k = Sha.K.getD i 0 := ⟨_, rfl⟩
  rw [← hk2] at hk ⊢
  have HK := Lib.hid hk
  have hi' : (i : Int) < 64 := by omega
  clear hk2 hk
  go_enter Tryz.func203, Tryz.ntmps203
  go_wp2_with (refine wpList_store_new rfl 263 _ _ rfl kc.toArray rfl rfl (by kernel_rfl) (by rfl) kc_one ?_; intro wz hW hB hS; have hB' := Lib.hid hB; have hc := cell_of hW i; rw [HK.out] at hc; clear hB hW hS)
  go_ret
  exact ⟨rfl, hB'.out⟩
end Go.Proofs.YtmnebimijlnlkaaGreatDoor
namespace Go.Proofs.YtmnebimijlnlkaaGreatDoor
open Go.RowKit
def w8c (v : Sha.W8) : Array Value := #[.int .u32 v.a, .int .u32 v.b, .int .u32 v.c, .int .u32 v.d, .int .u32 v.e, .int .u32 v.f, .int .u32 v.g, .int .u32 v.h]
theorem blend_set (A B : List Value) (t : Nat) (h : A.length = B.length) (v : Value) (hv : A[t]? = some v) : (A.take t ++ B.drop t).toArray.setIfInBounds t v = (A.take (t + 1) ++ B.drop (t + 1)).toArray := by
  obtain ⟨ht, hv⟩ := List.getElem?_eq_some_iff.1 hv
  apply Array.ext'
  rw [Array.toList_setIfInBounds]
  rw [List.take_succ_eq_append_getElem ht, hv, List.drop_eq_getElem_cons (show t < B.length by omega)]
  have e : (A.take t).length = t := by simp; omega
  show List.set (A.take t ++ B[t] :: B.drop (t + 1)) t v = A.take t ++ [v] ++ B.drop (t + 1)
  simp only [List.set_append, e, Nat.lt_irrefl, ↓reduceIte, Nat.sub_self, List.set_cons_zero, List.append_assoc, List.singleton_append]
theorem blend_get (A B : List Value) (t : Nat) (h : A.length = B.length) (ht : t < A.length) : (A.take t ++ B.drop t).toArray[t]? = B[t]? := by
  have e : (A.take t).length = t := by simp; omega
  rw [List.getElem?_toArray, List.getElem?_append_right (by omega), e, Nat.sub_self, List.getElem?_drop]
  rfl
def w8l (v : Sha.W8) : List Value := [.int .u32 v.a, .int .u32 v.b, .int .u32 v.c, .int .u32 v.d, .int .u32 v.e, .int .u32 v.f, .int .u32 v.g, .int .u32 v.h]
theorem w8l_plus (x y : Sha.W8) (t : Nat) (ht : t < 8) : ∃ a b : Nat, (w8l x)[t]? = some (.int .u32 a) ∧ (w8l y)[t]? = some (.int .u32 b) ∧ (w8l (x.plus y))[t]? = some (.int .u32 (((a : Int) + b) % 4294967296)) := by
  have : t = 0 ∨ t = 1 ∨ t = 2 ∨ t = 3 ∨ t = 4 ∨ t = 5 ∨ t = 6 ∨ t = 7 := by omega
  rcases this with rfl | rfl | rfl | rfl | rfl | rfl | rfl | rfl <;> exact ⟨_, _, rfl, rfl, by simp [w8l, Sha.W8.plus]⟩
theorem run_index_agg {P : Program} {k : IntKind} (t e : TypeId) (n : Nat) (he : P.underlying e = some (.int k)) (hu : P.underlying t = some (.array n e)) (hs : (P.info? e).map (·.size) = some 1) (C : Array Value) (hn : C.size = n) (i : Nat) (v : Value) (hv : C[i]? = some v) (w : World) :
    (Instr.index t (.agg C) (.int .i64 i)).run P w = .ok v w := by
  have hi : i < C.size := (Array.getElem?_eq_some_iff.1 hv).1
  obtain ⟨inf, hinf, hsz⟩ := Option.map_eq_some_iff.1 hs
  have h1 : (sizeOf e).run P w = .ok 1 w := by simp [sizeOf, typeInfo, hinf, hsz]
  have h2 : (isAgg e).run P w = .ok false w := by
    unfold isAgg
    rw [Sem.run_bind, run_underlying he w]
    simp
  simp [Instr.index, asIntOf, run_underlying hu, h1, show i < n by omega, part, h2, hv]
theorem turn_pure (x : Nat) (b : Int) (hx : x < 4294967296) (h0 : 0 ≤ b) (hb : b < 32) (w : World) :
    Calls Tryz.prog 202 #[.int .u32 x, .int .i64 b] w fun e w' => e = .returned (.int .u32 (Sha.rotr x b.toNat)) ∧ Below w.heap.size w w' :=
  (turn_i x b hx h0 hb w).mono fun _ _ ⟨he, _, hk⟩ => ⟨he, by rw [hk]; exact (Same.drewN w _).below _⟩
theorem ch_bits (e f g : Nat) (he : e < 4294967296) (hf : f < 4294967296) (hg : g < 4294967296) :
    bits BinOp.xor IntKind.u32 (bits BinOp.and IntKind.u32 (e : Int) (f : Int)) (bits BinOp.and IntKind.u32 (bits BinOp.xor IntKind.u32 (if IntKind.u32.signed = true then -1 else IntKind.u32.max) (e : Int)) (g : Int)) = ((Sha.ch e f g : Nat) : Int) := by
  have h0 : bits BinOp.xor IntKind.u32 (if IntKind.u32.signed = true then -1 else IntKind.u32.max) (e : Int) = ((4294967295 - e : Nat) : Int) := by
    have e1 : (if IntKind.u32.signed = true then -1 else IntKind.u32.max) = ((4294967295 : Nat) : Int) := by decide
    rw [e1, u32_xor_nat _ _ (by decide) he]
    congr 1
    have e2 := BitVec.toNat_not (x := BitVec.ofNat 32 e)
    have e3 : (BitVec.allOnes 32 ^^^ BitVec.ofNat 32 e).toNat = 4294967295 ^^^ e := by
      rw [BitVec.toNat_xor]; simp [BitVec.toNat_allOnes, Nat.mod_eq_of_lt he]
    have e4 : BitVec.allOnes 32 ^^^ BitVec.ofNat 32 e = ~~~ (BitVec.ofNat 32 e) := BitVec.allOnes_xor
    rw [← e3, e4, e2]
    simp [Nat.mod_eq_of_lt he]
  rw [h0, u32_and_nat _ _ he hf, u32_and_nat _ _ (by omega) hg, u32_xor_nat _ _ (Sha.and_lt he) (Sha.and_lt (by omega))]
  rfl
theorem one_bits (e f g h k w : Nat) (he : e < 4294967296) (hf : f < 4294967296) (hg : g < 4294967296) :
    IntKind.u32.wrap (IntKind.u32.wrap (IntKind.u32.wrap (IntKind.u32.wrap ((h : Int) +
      bits BinOp.xor IntKind.u32 (bits BinOp.xor IntKind.u32 ((Sha.rotr e 6 : Nat) : Int) ((Sha.rotr e 11 : Nat) : Int)) ((Sha.rotr e 25 : Nat) : Int)) +
      bits BinOp.xor IntKind.u32 (bits BinOp.and IntKind.u32 (e : Int) (f : Int)) (bits BinOp.and IntKind.u32 (bits BinOp.xor IntKind.u32 (if IntKind.u32.signed = true then -1 else IntKind.u32.max) (e : Int)) (g : Int))) + k) + w)
      = (((h + Sha.big1 e + Sha.ch e f g + k + w) % 4294967296 : Nat) : Int) := by
  rw [ch_bits e f g he hf hg, xor3_bits _ _ _ (Sha.rotr_lt he) (Sha.rotr_lt he) (Sha.rotr_lt he)]
  have e1 : (Sha.rotr e 6 ^^^ Sha.rotr e 11) ^^^ Sha.rotr e 25 = Sha.big1 e := rfl
  rw [e1]
  simp only [IntKind.wrap_u32]
  omega
theorem two_bits (a b c : Nat) (ha : a < 4294967296) (hb : b < 4294967296) (hc : c < 4294967296) :
    IntKind.u32.wrap (bits BinOp.xor IntKind.u32 (bits BinOp.xor IntKind.u32 ((Sha.rotr a 2 : Nat) : Int) ((Sha.rotr a 13 : Nat) : Int)) ((Sha.rotr a 22 : Nat) : Int) +
      bits BinOp.xor IntKind.u32 (bits BinOp.xor IntKind.u32 (bits BinOp.and IntKind.u32 (a : Int) (b : Int)) (bits BinOp.and IntKind.u32 (a : Int) (c : Int))) (bits BinOp.and IntKind.u32 (b : Int) (c : Int)))
      = (((Sha.big0 a + Sha.maj a b c) % 4294967296 : Nat) : Int) := by
  rw [u32_and_nat _ _ ha hb, u32_and_nat _ _ ha hc, u32_and_nat _ _ hb hc, xor3_bits _ _ _ (Sha.and_lt ha) (Sha.and_lt ha) (Sha.and_lt hb), xor3_bits _ _ _ (Sha.rotr_lt ha) (Sha.rotr_lt ha) (Sha.rotr_lt ha)]
  have e1 : (Sha.rotr a 2 ^^^ Sha.rotr a 13) ^^^ Sha.rotr a 22 = Sha.big0 a := rfl
  have e2 : ((a &&& b) ^^^ (a &&& c)) ^^^ (b &&& c) = Sha.maj a b c := rfl
  rw [e1, e2]
  simp only [IntKind.wrap_u32]
  omega
set_option maxRecDepth 100000 in
set_option maxHeartbeats 2000000 in
theorem mix_any (st : Sha.W8) (hf : st.Fit) (b off cap : Nat) (l : List UInt8) (hl : l.length = 64) (w : World) (he : ElemsAt bytesS w (some ⟨b, off, none⟩) cap l) :
    Calls Tryz.prog 174 #[.agg (w8c st), .slice (some ⟨b, off, none⟩) 64 cap] w fun e w' => e = .returned (.agg (w8c (Sha.mix st l))) ∧ Below w.heap.size w w' := by
  unfold w8c
  go_enter Tryz.func174, Tryz.ntmps174
  go_wp2_with fail
  refine (words_any b off cap l hl _ (he.mono (by repeat (first | exact Below.refl _ _ | refine Below.alloc ?_ (by simp <;> omega) _)))).mono ?_
  rintro e w1 ⟨rfl, hb1⟩
  have hB0 : Below w.heap.size w w1 := Below.trans (by repeat (first | exact Below.refl _ _ | refine Below.alloc ?_ (by simp <;> omega) _)) (hb1.mono (by simp; omega))
  have g0 : w1.heap[w.heap.size]? = some (.cells (w8c st) 242 (0, 0)) := heap_below (heap_alloc_old (heap_alloc_old (heap_alloc_new _ _))) hb1
  have g1 : w1.heap[w.heap.size + 1]? = some (.cells (w8c ⟨0, 0, 0, 0, 0, 0, 0, 0⟩) 242 (0, 0)) := heap_below (heap_alloc_old (heap_alloc_at (by simp) _)) hb1
  have g2 : w1.heap[w.heap.size + 2]? = some (.cells (w8c st) 242 (0, 0)) := heap_below (heap_alloc_at (by simp) _) hb1
  have G0 := Lib.hid g0
  have G1 := Lib.hid g1
  have G2 := Lib.hid g2
  have HB0 := Lib.hid hB0
  clear g0 g1 g2 hb1 hB0 he
  generalize hC : (u32s (Sha.sched l 64)).toArray = C
  have hix : ∀ t, t < 64 → C[t]? = some (Value.int .u32 ((Sha.sched l 64).getD t 0 : Nat)) := by
    intro t ht
    rw [← hC]
    have : t < (Sha.sched l 64).length := by rw [Sha.sched_length]; omega
    simp [u32s, this]
  have hCn : C.size = 64 := by rw [← hC]; simp [u32s, Sha.sched_length]
  have HCn := Lib.hid hCn
  clear hC hCn
  go_wp2
  go_loopw [16] (fun i wr => ∃ t : Nat, t ≤ 64 ∧ i = .int .i64 t ∧ Below w.heap.size w wr ∧ wr.heap[w.heap.size]? = some (.cells (w8c st) 242 (0, 0)) ∧ wr.heap[w.heap.size + 1]? = some (.cells (w8c ⟨0, 0, 0, 0, 0, 0, 0, 0⟩) 242 (0, 0)) ∧
      wr.heap[w.heap.size + 2]? = some (.cells (w8c (Sha.rounds st (Sha.sched l 64) t)) 242 (0, 0))) (fun i _ => 64 - (intOf i).toNat)
  case atStart => exact ⟨0, by omega, rfl, HB0.out, G0.out, G1.out, G2.out⟩
  case round =>
    clear G0 G1 G2 HB0
    obtain ⟨t, ht, rfl, hB, g0, g1, g2⟩ := hrel
    by_cases hlt : t < 64
    · have hix' := run_index_agg (P := Tryz.prog) 263 168 64 Tryz.underlying168 Tryz.underlying263 (by kernel_rfl) C HCn.out t _ (hix t hlt)
      have hvf := Sha.rounds_fit hf (Sha.sched l 64) t
      have hW := Sha.sched_lt l t 64
      have hstep : Hid (Sha.rounds st (Sha.sched l 64) (t + 1) = Sha.turn (Sha.rounds st (Sha.sched l 64) t) (Sha.K.getD t 0) ((Sha.sched l 64).getD t 0)) := rfl
      obtain ⟨v, hv⟩ : ∃ v, v = Sha.rounds st (Sha.sched l 64) t := ⟨_, rfl⟩
      obtain ⟨W, hWe⟩ : ∃ W, W = (Sha.sched l 64).getD t 0 := ⟨_, rfl⟩
      obtain ⟨Kt, hKe⟩ : ∃ Kt, Kt = Sha.K.getD t 0 := ⟨_, rfl⟩
      have hKf : Kt < 4294967296 := by rw [hKe]; exact Sha.K_lt t
      have hround := round_any t hlt
      rw [← hKe] at hround hstep
      rw [← hWe] at hix' hW hstep
      rw [← hv] at g2 hvf hstep
      obtain ⟨va, vb, vc, vd, ve, vf, vg, vh⟩ := v
      obtain ⟨fa, fb, fc, fd, fe, ff, fg, fh⟩ := hvf
      simp only at fa fb fc fd fe ff fg fh
      have HR := Lib.hid hround
      clear hv hWe hKe hix hround
      have G0 := Lib.hid g0
      have G1 := Lib.hid g1
      have c0 := cell_of g2 0
      have c1 := cell_of g2 1
      have c2 := cell_of g2 2
      have c4 := cell_of g2 4
      have c5 := cell_of g2 5
      have c6 := cell_of g2 6
      have c7 := cell_of g2 7
      simp [w8c] at c0 c1 c2 c4 c5 c6 c7
      have G2 := Lib.hid g2
      have HB := Lib.hid hB
      clear g0 g1 g2 hB
      go_wp2
      go_quiet (fail)
      go_wp2
      have lt2 := lt_of_heap G2.out
      have S1 := Same.drewN wr nq
      generalize wr.drewN nq = w2 at *
      refine region_pure (by kernel_rfl) (by kernel_rfl) fun I ne f hfb hback => ?_
      have d5 : ∀ i, (f i).cell? ⟨w.heap.size + 2, 5, none⟩ = some (.int .u32 vf) := fun i => by rw [(hfb i).cell (by rw [S1.size]; exact lt2)]; exact S1.cell c5
      have d6 : ∀ i, (f i).cell? ⟨w.heap.size + 2, 6, none⟩ = some (.int .u32 vg) := fun i => by rw [(hfb i).cell (by rw [S1.size]; exact lt2)]; exact S1.cell c6
      have d7 : ∀ i, (f i).cell? ⟨w.heap.size + 2, 7, none⟩ = some (.int .u32 vh) := fun i => by rw [(hfb i).cell (by rw [S1.size]; exact lt2)]; exact S1.cell c7
      have hfb' := Lib.hid hfb
      clear hfb c0 c1 c2 c4 c5 c6 c7
      repeat (quiet_step ((first | (go_at_call 202; exact pure_of hfb'.out hback (turn_pure _ _ fe (by decide) (by decide) _)) | (go_at_call 203; exact pure_of hfb'.out hback (HR.out _)))))
      refine wpQuiet_nil ?_
      intro i
      have hfi := hfb'.out i
      generalize f i = w3 at *
      rw [one_bits ve vf vg vh Kt W fe ff fg]
      obtain ⟨t1, ht1⟩ : ∃ t1, t1 = (vh + Sha.big1 ve + Sha.ch ve vf vg + Kt + W) % 4294967296 := ⟨_, rfl⟩
      rw [← ht1]
      have HT1 := Lib.hid ht1
      clear ht1
      have H0 := Lib.hid (heap_below (S1.at G0.out) hfi)
      have H1 := Lib.hid (heap_below (S1.at G1.out) hfi)
      have H2 := Lib.hid (heap_below (S1.at G2.out) hfi)
      have HB3 := Lib.hid (HB.out.trans ((S1.below _).trans (hfi.mono (by rw [S1.size]; exact HB.out.size))))
      clear G0 G1 G2 HB lt2 S1 hfi hback hfb' HR d5 d6 d7
      go_wp2
      refine region_pure (by kernel_rfl) (by kernel_rfl) fun I ne f hfb hback => ?_
      have d1 : ∀ i, (f i).cell? ⟨w.heap.size + 2, 1, none⟩ = some (.int .u32 vb) := fun i => by rw [(hfb i).cell (lt_of_heap H2.out), cell_of H2.out]; rfl
      have d2 : ∀ i, (f i).cell? ⟨w.heap.size + 2, 2, none⟩ = some (.int .u32 vc) := fun i => by rw [(hfb i).cell (lt_of_heap H2.out), cell_of H2.out]; rfl
      have hfb' := Lib.hid hfb
      clear hfb
      repeat (quiet_step ((go_at_call 202; exact pure_of hfb'.out hback (turn_pure _ _ fa (by decide) (by decide) _))))
      refine wpQuiet_nil ?_
      intro i
      have hfi := hfb'.out i
      generalize f i = w4 at *
      rw [two_bits va vb vc fa fb fc]
      obtain ⟨t2, ht2⟩ : ∃ t2, t2 = (Sha.big0 va + Sha.maj va vb vc) % 4294967296 := ⟨_, rfl⟩
      rw [← ht2]
      have HT2 := Lib.hid ht2
      clear ht2
      have G0 := Lib.hid (heap_below H0.out hfi)
      have G1 := Lib.hid (heap_below H1.out hfi)
      have G2 := Lib.hid (heap_below H2.out hfi)
      have HB := Lib.hid (HB3.out.trans (hfi.mono HB3.out.size))
      clear H0 H1 H2 HB3 hfi hback hfb' d1 d2
      go_wp2
      refine region_tail 2 (by kernel_rfl) (by kernel_rfl) fun w5 hs => ?_
      simp only [List.take_succ_cons, List.take_zero, List.drop_succ_cons, List.drop_zero]
      repeat still_step
      refine wpStill_nil ?_
      have H0 := Lib.hid (hs.at G0.out)
      have H1 := Lib.hid (hs.at G1.out)
      have H2 := hs.at G2.out
      have HB3 := Lib.hid (HB.out.trans (hs.below _))
      clear G0 G1 G2 HB hs
      refine wpList_copy_splice rfl _ _ 267 267 rfl 168 Tryz.underlying267 (by kernel_rfl) (some ⟨w.heap.size + 2, 1, none⟩) (some ⟨w.heap.size + 2, 0, none⟩) 7 7 7 8 rfl rfl
        (w.heap.size + 2) 1 [.int .u32 va, .int .u32 vb, .int .u32 vc, .int .u32 vd, .int .u32 ve, .int .u32 vf, .int .u32 vg, .int .u32 vh] 242 H2 [.int .u32 va, .int .u32 vb, .int .u32 vc, .int .u32 vd, .int .u32 ve, .int .u32 vf, .int .u32 vg] rfl ?k1 (by simp) ?k2 (w.heap.size + 2) w5 (Below.refl _ _) (Nat.le_refl _) ?_
      case k1 =>
        intro _
        refine ⟨rfl, _, rfl, fun j u hj => ?_⟩
        rw [cells_add H2]
        have e7 : [Value.int .u32 va, .int .u32 vb, .int .u32 vc, .int .u32 vd, .int .u32 ve, .int .u32 vf, .int .u32 vg] = ([Value.int .u32 va, .int .u32 vb, .int .u32 vc, .int .u32 vd, .int .u32 ve, .int .u32 vf, .int .u32 vg, .int .u32 vh]).take 7 := rfl
        rw [e7, List.getElem?_take] at hj
        split at hj
        · show (#[_, _, _, _, _, _, _, _] : Array Value)[j]? = _
          simpa using hj
        · cases hj
      case k2 => simp [Value.oneCell']
      intro w6 hg6 hb6
      have g6 : w6.heap[w.heap.size + 2]? = some (.cells #[.int .u32 va, .int .u32 va, .int .u32 vb, .int .u32 vc, .int .u32 vd, .int .u32 ve, .int .u32 vf, .int .u32 vg] 242 (0, 0)) := hg6.out
      have G0 := Lib.hid (show w6.heap[w.heap.size]? = some (.cells (w8c st) 242 (0, 0)) by rw [hb6.block _ (by omega)]; exact H0.out)
      have G1 := Lib.hid (show w6.heap[w.heap.size + 1]? = some (.cells (w8c ⟨0, 0, 0, 0, 0, 0, 0, 0⟩) 242 (0, 0)) by rw [hb6.block _ (by omega)]; exact H1.out)
      have HB := Lib.hid (HB3.out.trans (hb6.mono (by omega)))
      clear H0 H1 H2 HB3 hg6 hb6
      have c4 := cell_of g6 4
      have z4 := frozen_of g6 4
      have c0 := cell_of g6 0
      have z0 := frozen_of g6 0
      simp at c4 c0
      have G2 := Lib.hid g6
      clear g6
      go_wp2
      go_roundw
      case rel =>
        refine ⟨t + 1, by omega, by go_num, (HB.out.setCell (by simp <;> omega) _).setCell (by simp <;> omega) _, ?_, ?_, ?_⟩
        · rw [heap_setCell_ne (by simp <;> omega), heap_setCell_ne (by simp <;> omega)]; exact G0.out
        · rw [heap_setCell_ne (by simp <;> omega), heap_setCell_ne (by simp <;> omega)]; exact G1.out
        · rw [heap_setCell (heap_setCell G2.out 4 _) 0 _, hstep.out]
          simp only [w8c, Sha.turn, ← HT1.out, ← HT2.out]
          simp [HT1.out, HT2.out]
      case measure => simp [intOf]; omega
    · have e64 : t = 64 := by omega
      have hmix : Hid (Sha.mix st l = st.plus (Sha.rounds st (Sha.sched l 64) t)) := by rw [e64]; rfl
      have G0 := Lib.hid g0
      have G1 := Lib.hid g1
      have G2 := Lib.hid g2
      have HB := Lib.hid hB
      generalize Sha.rounds st (Sha.sched l 64) t = v at *
      clear g0 g1 g2 hB hix e64
      go_wp2
      go_loopw [88] (fun i wr => ∃ u : Nat, u ≤ 8 ∧ i = .int .i64 u ∧ Below w.heap.size w wr ∧ wr.heap[w.heap.size]? = some (.cells ((w8l (st.plus v)).take u ++ (w8l st).drop u).toArray 242 (0, 0)) ∧
        wr.heap[w.heap.size + 1]? = some (.cells (w8c ⟨0, 0, 0, 0, 0, 0, 0, 0⟩) 242 (0, 0)) ∧ wr.heap[w.heap.size + 2]? = some (.cells (w8c v) 242 (0, 0))) (fun i _ => 8 - (intOf i).toNat)
      case atStart => exact ⟨0, by omega, rfl, HB.out, G0.out, G1.out, G2.out⟩
      case round =>
        clear G0 G1 G2 HB
        obtain ⟨u, hu, rfl, hB, g0, g1, g2⟩ := hrel
        have G0 := Lib.hid g0
        have G1 := Lib.hid g1
        have G2 := Lib.hid g2
        have HB := Lib.hid hB
        clear g0 g1 g2 hB
        by_cases hlu : u < 8
        · obtain ⟨xa, xb, e1, e2, e3⟩ := w8l_plus st v u hlu
          have E1 := Lib.hid e1
          have E2 := Lib.hid e2
          have E3 := Lib.hid e3
          clear e1 e2 e3
          have l8 : (u : Int) < 8 := by omega
          go_wp2
          refine region_tail 8 (by kernel_rfl) (by kernel_rfl) fun w2 hs => ?_
          simp only [List.take_succ_cons, List.take_zero, List.drop_succ_cons, List.drop_zero]
          have H0 := Lib.hid (hs.at G0.out)
          have H1 := Lib.hid (hs.at G1.out)
          have H2 := Lib.hid (hs.at G2.out)
          have HB2 := Lib.hid (HB.out.trans (hs.below _))
          have c0 : w2.cell? ⟨w.heap.size, u, none⟩ = some (.int .u32 xa) := by rw [cell_of H0.out, blend_get (w8l (st.plus v)) (w8l st) u rfl (by simpa [w8l] using hlu)]; exact E1.out
          have c2 : w2.cell? ⟨w.heap.size + 2, u, none⟩ = some (.int .u32 xb) := by rw [cell_of H2.out, ← E2.out]; show (w8l v).toArray[u]? = _; rw [List.getElem?_toArray]
          have z0 := frozen_of H0.out u
          clear hs G0 G1 G2 HB
          repeat still_step
          refine wpStill_nil ?_
          go_wp2
          go_roundw
          case rel =>
            refine ⟨u + 1, by omega, by go_num, HB2.out.setCell (by simp) _, ?_, ?_, ?_⟩
            · rw [heap_setCell H0.out, blend_set (w8l (st.plus v)) (w8l st) u rfl _ E3.out]
            · rw [heap_setCell_ne (by simp)]; exact H1.out
            · rw [heap_setCell_ne (by simp)]; exact H2.out
          case measure => simp [intOf]; omega
        · have e8 : u = 8 := by omega
          have g0 := G0.out
          rw [e8] at g0
          have g0' : Hid (_ = some (Obj.cells (w8c (st.plus v)) 242 (0, 0))) := g0
          clear g0 G0 e8
          go_wp2_with (refine wpList_load_row rfl 242 _ rfl w.heap.size rfl 242 (w8c (st.plus v)) (0, 0) _ g0'.out Tryz.underlying242 rfl (by kernel_rfl) ?_; go_must (refine wpList_store_row rfl 242 _ _ rfl (w.heap.size + 1) (w8c (st.plus v)) rfl rfl 242 (w8c ⟨0, 0, 0, 0, 0, 0, 0, 0⟩) G1.out ?s1 ?s2 ?s3 ?_))
          case s1 => kernel_rfl
          case s2 => rfl
          case s3 => simp [w8c, Value.oneCell']
          have hW := setRow_heap _ (w.heap.size + 1) _ (w8c (st.plus v)) 242 (0, 0) G1.out
          have hBB := below_setRow HB.out (Nat.le_succ w.heap.size) (w8c (st.plus v))
          generalize World.setRow _ (w.heap.size + 1) (w8c (st.plus v)) = wz at *
          refine bodyPost_ret (v := .agg (w8c (st.plus v))) ?r ?d ?fin
          case fin => exact ⟨by rw [hmix.out]; rfl, hBB⟩
          case d => rfl
          case r =>
            refine results_cell_row Tryz.results174 _ _ (w.heap.size + 1) 242 (w8c (st.plus v)) (0, 0) _ ?_ hW Tryz.underlying242 rfl ?_
            · rfl
            · kernel_rfl
end Go.Proofs.YtmnebimijlnlkaaGreatDoor
namespace Go.Proofs.YtmnebimijlnlkaaGreatDoor
open Go.RowKit
section
variable {P : Program} {md : Region.Mode} {ops : Array Oper} {C : World → Prop}
def wpAnyLQ (P : Program) (md : Region.Mode) (ops : Array Oper) (C : World → Prop) (n : Nat) (L : Array Bool → Act → Prop) : Nat → Array Bool → Act → Prop
  | 0, listed, a => L listed a
  | f + 1, listed, a =>
    Region.ready md ops listed ≠ [] ∧ ∀ i ∈ Region.ready md ops listed, i < n ∧ qOp P ops C i (wpAnyLQ P md ops C n L f (listed.setIfInBounds i true)) a
theorem wpAny_of_headQ {n g : Nat} {L : Array Bool → Act → Prop} {Q' : Exit → Act → World → Prop} (hL : ∀ listed a w, C w → L listed a → wpAny P md ops Q' g listed a w) :
    ∀ (f : Nat) (listed : Array Bool) (a : Act) (w : World), C w → wpAnyLQ P md ops C n L f listed a → wpAny P md ops Q' (f + g) listed a w
  | 0, listed, a, w, hw, h => by rw [Nat.zero_add]; exact hL _ _ _ hw h
  | f + 1, listed, a, w, hw, h => by
    rw [show f + 1 + g = (f + g) + 1 by omega]
    exact ⟨fun h0 => absurd h0 h.1, fun i hi => wpOp_of_qOp hw (fun a' w' hw' h' => wpAny_of_headQ hL f _ a' w' hw' h') (h.2 i hi).2⟩
theorem wpAnyLQ_first {n i : Nat} {oi : Oper} {v : Value} {L : Array Bool → Act → Prop} (hi : ops[i]? = some oi) (hsel : ∀ (j : Nat) (o : Oper) cs b, ops[j]? = some o → o.op ≠ .select cs b)
    (hs : Region.sinkB md ops n = true) (hc : Region.chainB md ops n = true) (hn : n < ops.size) (hin : i < n)
    (hdone : ∀ listed a, L listed a → ∀ j ∈ Region.ready md ops listed, n ≤ j) :
    ∀ (f : Nat) (listed : Array Bool) (a : Act), HeadInv md ops n listed →
      (∀ j oj, ops[j]? = some oj → j ≠ i → listed.getD j true = false → (∀ e ∈ oj.after, Region.binds md e = true → e.on ≠ i) → oi.apart ops oj = true) →
      i ∈ Region.ready md ops listed → YieldsIn P ops C oi v a →
      wpAnyLQ P md ops C n L f (listed.setIfInBounds i true) (a.put oi.dst v) → wpAnyLQ P md ops C n L (f + 1) listed a := by
  intro f
  induction f with
  | zero =>
    intro listed a inv _ hr hy H
    have hun := (mem_ready.1 hr).1
    refine ⟨fun h => (by rw [h] at hr; cases hr), fun j hj => ?_⟩
    have hjn : j < n := by
      rcases Nat.lt_or_ge j n with h | h
      · exact h
      · exact absurd hj (tail_waits hs hc hn inv _ i rfl hin hun j h)
    refine ⟨hjn, ?_⟩
    by_cases hji : j = i
    · subst hji; exact hy.qOp hi H
    · have := hdone _ _ H j (ready_mono hj hji)
      omega
  | succ f ih =>
    intro listed a inv hfree hr hy H
    have hun := (mem_ready.1 hr).1
    refine ⟨fun h => (by rw [h] at hr; cases hr), fun j hj => ?_⟩
    have hjn : j < n := by
      rcases Nat.lt_or_ge j n with h | h
      · exact h
      · exact absurd hj (tail_waits hs hc hn inv _ i rfl hin hun j h)
    refine ⟨hjn, ?_⟩
    by_cases hji : j = i
    · subst hji; exact hy.qOp hi H
    · have h1 := (H.2 j (ready_mono hj hji)).2
      obtain ⟨hjun, oj, hoj, hall⟩ := mem_ready.1 hj
      have hnot : ∀ e ∈ oj.after, Region.binds md e = true → e.on ≠ i := fun e he hb heq => by
        have h1 := hall e he hb
        rw [heq, getD_both hun] at h1
        cases h1
      have h2 := qOp_put hoj (hfree j oj hoj hji hjun hnot) (fun cs b => hsel i oi cs b hi) (fun cs b => hsel j oj cs b hoj) hy h1
      have hfree' : ∀ k ok, ops[k]? = some ok → k ≠ i → (listed.setIfInBounds j true).getD k true = false →
          (∀ e ∈ ok.after, Region.binds md e = true → e.on ≠ i) → oi.apart ops ok = true := fun k ok hk hki hun hno => by
        refine hfree k ok hk hki ?_ hno
        by_cases hjk : j = k
        · subst hjk; exact hjun
        · rw [getD_set_ne true hjk] at hun; exact hun
      refine qOp_mono (fun a' h3 => ih (listed.setIfInBounds j true) a' (inv.set hj hjn) hfree' (ready_mono hr (Ne.symm hji)) h3.1 ?_) h2
      rw [Array.setIfInBounds_comm _ _ hji]
      exact h3.2
theorem wpAnyLQ_lex {n g : Nat} {Lq : Act → Prop} (hsel : Region.noSelect ops = true) (hs : Region.sinkB md ops n = true) (hc : Region.chainB md ops n = true) (hn : n < ops.size) :
    ∀ (l : List Oper) (k : Nat) (listed : Array Bool) (a : Act), (∀ j, j < l.length → l[j]? = ops[k + j]?) → k + l.length = n → HeadInv md ops n listed →
    Region.lexHead md ops g l.length k listed = true → wpQuiet P ops C Lq l a →
    wpAnyLQ P md ops C n (fun listed' a' => Region.seqB md ops g n listed' = true ∧ Lq a') l.length listed a
  | [], k, listed, a, _, hk, _, hB, h => by
    have : k = n := by simpa using hk
    subst this
    exact ⟨by simpa [Region.lexHead] using hB, h⟩
  | o :: l, k, listed, a, hl, hk, inv, hB, h => by
    have h0 : ops[k]? = some o := by simpa using (hl 0 (by simp)).symm
    simp only [List.length_cons, Region.lexHead, Bool.and_eq_true] at hB
    obtain ⟨⟨hr, hf⟩, hB'⟩ := hB
    have hkn : k < n := by simp only [List.length_cons] at hk; omega
    have hr' : k ∈ Region.ready md ops listed := by simpa using hr
    have hst : qOp P ops C k (wpQuiet P ops C Lq l) a := by unfold qOp; simp only [h0]; exact h
    obtain ⟨v, hy, hK⟩ := yieldsIn_of_qOp h0 hst
    exact wpAnyLQ_first h0 (Region.noSelect_spec hsel) hs hc hn hkn (fun listed' a' hL => seqB_ready hL.1) l.length listed a inv (Region.free_spec h0 hf) hr' hy
      (wpAnyLQ_lex hsel hs hc hn l (k + 1) _ _ (fun j hj => by have := hl (j + 1) (by simp; omega); simpa [Nat.add_assoc, Nat.add_comm 1 j] using this) (by simp only [List.length_cons] at hk; omega) (inv.set hr' hkn) hB' hK)
theorem wp_region_quiet_tail {id : Nat} {Q : Exit → Act → World → Prop} {a : Act} {w : World} {l : List Oper} (n : Nat) (hm : P.follows .mixedOrders = true) (hB : Region.lexTailB .any l.toArray n = true)
    (hC : C { w with drawn := w.drawn + 1 })
    (h : wpQuiet P l.toArray C (fun a' => ∀ w', C w' → wpList P l.toArray Q (l.drop n) a' w') (l.take n) a) : (Code.region id l.toArray true).wp P Q a w := by
  simp only [Region.lexTailB, Bool.and_eq_true, decide_eq_true_eq] at hB
  obtain ⟨⟨⟨⟨hsel, hn⟩, hs⟩, hc⟩, hlex⟩ := hB
  have hn' : n < l.length := by simpa using hn
  have htl : (l.take n).length = n := by simp; omega
  have hdl : (l.drop n).length = l.toArray.size - n := by simp
  have inv0 : HeadInv .any l.toArray n (Array.replicate l.toArray.size false) :=
    ⟨by simp, fun j oj _ hl => (by rw [getD_replicate_false] at hl; cases hl), fun t _ ht => getD_in (by simpa using ht) (getD_replicate_false _ _)⟩
  have H := wpAnyLQ_lex (md := .any) (g := l.toArray.size - n) hsel hs hc hn (l.take n) 0 _ a (fun j hj => by
    have hj' : j < n := by rw [htl] at hj; exact hj
    simp [hj']) (by simpa using htl) inv0 (by rw [htl]; exact hlex) h
  refine wp_region_any hm ?_
  have := wpAny_of_headQ (C := C) (Q' := Q) (g := l.toArray.size - n) (fun listed a' w' hw' hL => by
    have := wpAny_of_seq (md := .any) (Q' := Q) (l.drop n) n listed a' w' (fun j => by simp [List.getElem?_drop]) (by rw [hdl]; exact hL.1) (hL.2 w' hw')
    rwa [hdl] at this) _ _ _ _ hC H
  rw [htl, show n + (l.toArray.size - n) = l.toArray.size by omega] at this
  exact this
theorem region_pure_tail {id : Nat} {Q : Exit → Act → World → Prop} {a : Act} {w : World} {l : List Oper} (n : Nat) (hm : P.follows .mixedOrders = true) (hB : Region.lexTailB .any l.toArray n = true)
    (h : ∀ (I : Type) (_ : Nonempty I) (f : I → World), (∀ i, Below w.heap.size w (f i)) → Hid (∀ w', Below w.heap.size w w' → ∃ j, w' = f j) →
      wpQuiet P l.toArray (fun w' => ∃ i, w' = f i) (fun a' => ∀ i, wpList P l.toArray Q (l.drop n) a' (f i)) (l.take n) a) : (Code.region id l.toArray true).wp P Q a w := by
  let I := { w' : World // Below w.heap.size w w' }
  have hn : Nonempty I := ⟨⟨w, Below.refl _ _⟩⟩
  have h' := h I hn (fun i => i.val) (fun i => i.property) (fun w' hw => ⟨⟨w', hw⟩, rfl⟩)
  refine wp_region_quiet_tail (C := fun w' => ∃ i : I, w' = i.val) n hm hB ⟨⟨_, (Below.refl _ w).drew⟩, rfl⟩ ?_
  have e : (fun a' => ∀ i : I, wpList P l.toArray Q (l.drop n) a' i.val) = (fun a' => ∀ w', (∃ i : I, w' = i.val) → wpList P l.toArray Q (l.drop n) a' w') := by
    funext a'
    apply propext
    constructor
    · rintro hi w' ⟨i, rfl⟩; exact hi i
    · intro hi i; exact hi _ ⟨i, rfl⟩
  rw [e] at h'
  exact h'
end
end Go.Proofs.YtmnebimijlnlkaaGreatDoor
namespace Go.Proofs.YtmnebimijlnlkaaGreatDoor
open Go.RowKit
def hcells (v : Sha.W8) (lv : Value) (n : Int) : Array Value := #[.int .u32 v.a, .int .u32 v.b, .int .u32 v.c, .int .u32 v.d, .int .u32 v.e, .int .u32 v.f, .int .u32 v.g, .int .u32 v.h, lv, .int .i64 n]
def HashAt (base : Nat) (w : World) (g : Nat) (m : List UInt8) : Prop :=
  ∃ lv, base ≤ g ∧ w.heap[g]? = some (.cells (hcells (Sha.blocks Sha.start m) lv m.length) 244 (0, 0)) ∧ w.ownsRow base 5 1 lv (Sha.rest m).length (bytesV (Sha.rest m))
theorem HashAt.below {base : Nat} {w w' : World} {g : Nat} {m : List UInt8} (h : HashAt base w g m) (hb : Below w.heap.size w w') : HashAt base w' g m := by
  obtain ⟨lv, h1, h2, h3⟩ := h
  exact ⟨lv, h1, heap_below h2 hb, ownsRow_below h3 hb⟩
theorem info_byte : (Tryz.prog.info? 5).map (fun i => (i.zero, i.size, i.bytes)) = some (some (.int .u8 0), 1, 1) := by kernel_rfl
theorem ElemsAt.setCell {α : Type} {c : α → Value} {w : World} {a : Option Addr} {cap : Nat} {xs : List α} (h : ElemsAt (Shape.flat 1 (fun x => [c x]) (fun _ => rfl)) w a cap xs) (p : Addr) (hne : ∀ x, a = some x → x.block ≠ p.block) (u : Value) :
    ElemsAt (Shape.flat 1 (fun x => [c x]) (fun _ => rfl)) (w.setCell p u) a cap xs := by
  rcases h with h | ⟨b, off, rfl, hlt, hl, hm, hc⟩
  · exact .inl h
  · refine .inr ⟨b, off, rfl, by simpa [World.setCell] using hlt, hl, hm, fun i x hx => ?_⟩
    obtain ⟨cs, h1, h2⟩ := hc i x hx
    refine ⟨cs, h1, fun j v hj => ?_⟩
    have e : ∀ k, (w.setCell p u).cell? ⟨b, k, none⟩ = w.cell? ⟨b, k, none⟩ := fun k => World.cell?_of_block (heap_setCell_ne (hne _ rfl) u)
    rw [e]
    exact h2 j v hj
theorem mix_lit (st : Sha.W8) (hf : st.Fit) (b off cap : Nat) (l : List UInt8) (hl : l.length = 64) (w : World) (he : ElemsAt bytesS w (some ⟨b, off, none⟩) cap l) :
    Calls Tryz.prog 174 #[.agg #[.int .u32 st.a, .int .u32 st.b, .int .u32 st.c, .int .u32 st.d, .int .u32 st.e, .int .u32 st.f, .int .u32 st.g, .int .u32 st.h], .slice (some ⟨b, off, none⟩) 64 cap] w fun e w' =>
      e = .returned (.agg #[.int .u32 (Sha.mix st l).a, .int .u32 (Sha.mix st l).b, .int .u32 (Sha.mix st l).c, .int .u32 (Sha.mix st l).d, .int .u32 (Sha.mix st l).e, .int .u32 (Sha.mix st l).f, .int .u32 (Sha.mix st l).g, .int .u32 (Sha.mix st l).h]) ∧ Below w.heap.size w w' :=
  mix_any st hf b off cap l hl w he
theorem ElemsAt.drop {α : Type} {c : α → Value} {w : World} {b off cap : Nat} {xs : List α} (h : ElemsAt (Shape.flat 1 (fun x => [c x]) (fun _ => rfl)) w (some ⟨b, off, none⟩) cap xs) (k : Nat) (hk : k ≤ xs.length) :
    ElemsAt (Shape.flat 1 (fun x => [c x]) (fun _ => rfl)) w (some ⟨b, off + k, none⟩) (cap - k) (xs.drop k) := by
  rcases h with ⟨rfl, h1, h2⟩ | ⟨b', off', e, hlt, hl, hm, hc⟩
  · exact .inl ⟨by simp, by omega, by simp⟩
  · cases e
    refine .inr ⟨b, off + k, rfl, hlt, by simp; omega, by omega, fun i x hx => ?_⟩
    rw [List.getElem?_drop] at hx
    obtain ⟨cs, h1, h2⟩ := hc (k + i) x hx
    refine ⟨cs, h1, fun j u hj => ?_⟩
    have := h2 j u hj
    have e : off + k + i * (Shape.flat 1 (fun x => [c x]) (fun _ => rfl)).n + j = off + (k + i) * (Shape.flat 1 (fun x => [c x]) (fun _ => rfl)).n + j := by simp only [Shape.flat]; omega
    rw [e]; exact this
theorem ElemsAt.take {α : Type} {S : Shape α} {w : World} {a : Option Addr} {cap : Nat} {xs : List α} (h : ElemsAt S w a cap xs) (n : Nat) : ElemsAt S w a cap (xs.take n) := by
  rcases h with ⟨rfl, h⟩ | ⟨b, off, rfl, hlt, hl, hm, hc⟩
  · exact .inl ⟨by simp, h⟩
  · refine .inr ⟨b, off, rfl, hlt, by simp; omega, hm, fun i x hx => hc i x ?_⟩
    rw [List.getElem?_take] at hx
    split at hx
    · exact hx
    · cases hx
set_option maxRecDepth 100000 in
set_option maxHeartbeats 2000000 in
theorem write_any (base g : Nat) (m : List UInt8) (s : ByteArray) (w : World) (hbase : base ≤ w.heap.size) (hsz : m.length + s.size ≤ 140737488355200) (hh : HashAt base w g m) :
    Calls Tryz.prog 138 #[.pointer (some ⟨g, 0, none⟩), .string s] w fun e w' => e = .returned (.tuple #[]) ∧ HashAt base w' g (m ++ s.data.toList) ∧ Below base w w' := by
  obtain ⟨lv, hbg, hg, hown⟩ := hh
  have hlr := Sha.rest_length m
  generalize hst : Sha.blocks Sha.start m = st at *
  generalize hrl : Sha.rest m = rl at *
  have c8 := cell_of hg 8
  have c9 := cell_of hg 9
  have z8 := frozen_of hg 8
  have z9 := frozen_of hg 9
  simp [hcells] at c8 c9
  have hne := ownBlock_ne hown hg (by decide)
  have hown1 := Lib.hid (ownsRow_setCell_ne hown ⟨g, 9, none⟩ hne (.int .i64 (m.length + s.size)))
  have hg1 := Lib.hid (heap_setCell hg 9 (.int .i64 (m.length + s.size)))
  have hb1 := Lib.hid ((Below.refl base w).setCell (p := ⟨g, 9, none⟩) hbg (.int .i64 (m.length + s.size)))
  have hlt := lt_of_heap hg
  have HNE := Lib.hid hne
  have HR := Lib.hid hrl
  have HS := Lib.hid hst
  have HL := Lib.hid hlr
  have hlr' : rl.length < 64 := by omega
  obtain ⟨i0, hi, hz0, hz1, hz2⟩ := info_parts info_byte
  clear hg hrl hst hlr hown hne
  go_enter Tryz.func138, Tryz.ntmps138
  go_wp2_with (at_builtin; refine Lib.wpList_append_own_string _ rfl _ _ 49 9 rfl base 5 i0 Tryz.underlying49 Tryz.underlying9 hi hz0 hz1 hz2 lv _ _ rfl hown1.out s rfl (by simp [maxLen]; omega) (by omega) (by simp [World.setCell]; omega) ?_)
  intro v' w1 hown2 hgr2 _
  have hg2 : w1.heap[g]? = _ := (hgr2.block g (by simpa [World.setCell] using hlt) (by intro e; exact HNE.out e.symm)).trans hg1.out
  have hb2 : Below base w w1 := hb1.out.grown hgr2 (by simp [World.setCell]; omega) (fun k hk => (hown1.out.lt k hk).1)
  have hne2 := ownBlock_ne hown2 hg2 (by decide)
  have ha : bytesV rl ++ Lib.strCells s = bytesV (rl ++ s.data.toList) := by simp only [bytesV, List.map_append]; rfl
  rw [ha] at hown2
  have c8' := cell_of hg2 8
  have z8' := frozen_of hg2 8
  simp [hcells] at c8'
  obtain ⟨av, capv, hv', hel⟩ := elems_of_owned byteV hown2
  have hlen : (rl ++ s.data.toList).length = rl.length + s.size := by simp
  have hnb : ∀ x, av = some x → x.block ≠ g := by
    rintro x rfl e
    rw [hv'] at hne2
    exact hne2 (by simp [Value.ownBlock, e])
  rw [hv'] at hown2 ⊢
  have hel3 : Hid (ElemsAt bytesS _ av capv (rl ++ s.data.toList)) := Lib.hid (hel.setCell ⟨g, 8, none⟩ hnb (.slice av (rl ++ s.data.toList).length capv))
  have hg3 := Lib.hid (heap_setCell hg2 8 (.slice av (rl ++ s.data.toList).length capv))
  have hb3 := Lib.hid (hb2.setCell (p := ⟨g, 8, none⟩) hbg (.slice av (rl ++ s.data.toList).length capv))
  have HV := Lib.hid hv'
  have HNB := Lib.hid hnb
  have HLEN := Lib.hid hlen
  clear hown2
  generalize hall : rl ++ s.data.toList = all at *
  have HALL := Lib.hid hall
  clear hgr2 hg2 hb2 hne2 ha c8 z8 hel hv' hnb hall hlen c9 z9
  go_wp2_with fail
  go_loopg [] (all.length / 64) (fun k wr => ∃ (j : Nat) (a : Option Addr) (cap : Nat), j + k = all.length / 64 ∧ Below base w wr ∧ wr.heap[g]? = some (.cells (hcells (Sha.blocksN st all j) (.slice a (all.length - 64 * j) cap) (m.length + s.size)) 244 (0, 0)) ∧
    ElemsAt bytesS wr a cap (all.drop (64 * j)) ∧ ∀ x, a = some x → x.block ≠ g)
  case atStart => 
    refine ⟨0, av, capv, by omega, hb3.out, ?_, by simpa using hel3.out, HNB.out⟩
    rw [hg3.out]
    simp [hcells, Sha.blocksN]
  case round =>
    obtain ⟨j, a, cap, hj, hb, hg, he, hnb⟩ := hrel
    have hg' := Lib.hid hg
    have hb' := Lib.hid hb
    have he' := Lib.hid he
    have hnb' := Lib.hid hnb
    clear hel3 hg3 hb3 HNB hb hnb he
    by_cases hjk : j < all.length / 64
    · have hlen : (all.drop (64 * j)).length = all.length - 64 * j := by simp
      obtain ⟨b, off, ha, hbl, _⟩ := he'.out.byte (i := 0) (by omega)
      subst ha
      have c8 := cell_of hg 8
      simp [hcells] at c8
      clear hg
      have hge : (64 : Int) ≤ ((all.length - 64 * j : Nat) : Int) := by omega
      go_wp2_with fail
      have hfit : (Sha.blocksN st all j).Fit := Sha.blocksN_fit j all (by rw [← HS.out]; exact Sha.blocks_fit m Sha.start_fit)
      have hmix : Hid (Sha.blocksN st all (j + 1) = Sha.mix (Sha.blocksN st all j) ((all.drop (64 * j)).take 64)) := Sha.blocksN_succ j st all
      have hl64 : ((all.drop (64 * j)).take 64).length = 64 := by simp; omega
      have HL64 := Lib.hid hl64
      have HFIT := Lib.hid hfit
      have heT := Lib.hid (he'.out.take 64)
      generalize Sha.blocksN st all j = x at *
      clear hl64 hlen hfit
      refine region_pure_tail 13 (by kernel_rfl) (by kernel_rfl) fun I ne f hfb hback => ?_
      simp only [List.take_succ_cons, List.take_zero, List.drop_succ_cons, List.drop_zero]
      have hcg : ∀ i k, (f i).cell? ⟨g, k, none⟩ = wr.cell? ⟨g, k, none⟩ := fun i k => (hfb i).cell (lt_of_heap hg'.out)
      have d0 : ∀ i, (f i).cell? ⟨g, 0, none⟩ = some (.int .u32 x.a) := fun i => by rw [hcg, cell_of hg'.out]; rfl
      have d1 : ∀ i, (f i).cell? ⟨g, 1, none⟩ = some (.int .u32 x.b) := fun i => by rw [hcg, cell_of hg'.out]; rfl
      have d2 : ∀ i, (f i).cell? ⟨g, 2, none⟩ = some (.int .u32 x.c) := fun i => by rw [hcg, cell_of hg'.out]; rfl
      have d3 : ∀ i, (f i).cell? ⟨g, 3, none⟩ = some (.int .u32 x.d) := fun i => by rw [hcg, cell_of hg'.out]; rfl
      have d4 : ∀ i, (f i).cell? ⟨g, 4, none⟩ = some (.int .u32 x.e) := fun i => by rw [hcg, cell_of hg'.out]; rfl
      have d5 : ∀ i, (f i).cell? ⟨g, 5, none⟩ = some (.int .u32 x.f) := fun i => by rw [hcg, cell_of hg'.out]; rfl
      have d6 : ∀ i, (f i).cell? ⟨g, 6, none⟩ = some (.int .u32 x.g) := fun i => by rw [hcg, cell_of hg'.out]; rfl
      have d7 : ∀ i, (f i).cell? ⟨g, 7, none⟩ = some (.int .u32 x.h) := fun i => by rw [hcg, cell_of hg'.out]; rfl
      have d8 : ∀ i, (f i).cell? ⟨g, 8, none⟩ = some (.slice (some ⟨b, off, none⟩) (all.length - 64 * j) cap) := fun i => by rw [hcg, cell_of hg'.out]; rfl
      have hcap : (64 : Int) ≤ cap := by
        rcases he'.out with ⟨h0, _⟩ | ⟨_, _, _, _, hlc, _⟩
        · have := congrArg List.length h0; simp at this; omega
        · simp at hlc; omega
      have hfb' := Lib.hid hfb
      clear hfb hcg c8
      repeat (quiet_step ((go_at_call 174; exact pure_of hfb'.out hback (mix_lit x HFIT.out b off cap ((all.drop (64 * j)).take 64) HL64.out _ (heT.out.mono (hfb'.out _))))))
      refine wpQuiet_nil ?_
      intro i
      have hfi := hfb'.out i
      have hg3 : (f i).heap[g]? = _ := heap_below hg'.out hfi
      have he3 := Lib.hid (he'.out.mono hfi)
      have hb3 := Lib.hid (hb'.out.trans (hfi.mono (Nat.le_trans hbase hb'.out.size)))
      generalize f i = w3 at *
      clear hfi hback hfb' d0 d1 d2 d3 d4 d5 d6 d7 d8 hg' he' hb' heT
      have z0 := frozen_of hg3 0
      have z1 := frozen_of hg3 1
      have z2 := frozen_of hg3 2
      have z3 := frozen_of hg3 3
      have z4 := frozen_of hg3 4
      have z5 := frozen_of hg3 5
      have z6 := frozen_of hg3 6
      have z7 := frozen_of hg3 7
      have z8 := frozen_of hg3 8
      have c0 := cell_of hg3 0
      have c1 := cell_of hg3 1
      have c2 := cell_of hg3 2
      have c3 := cell_of hg3 3
      have c4 := cell_of hg3 4
      have c5 := cell_of hg3 5
      have c6 := cell_of hg3 6
      have c7 := cell_of hg3 7
      have c8 := cell_of hg3 8
      simp [hcells] at c0 c1 c2 c3 c4 c5 c6 c7 c8
      generalize hY : Sha.mix x ((all.drop (64 * j)).take 64) = y at *
      have HG3 := Lib.hid hg3
      clear hg3 HL64 HFIT hY
      have hcapn : 64 ≤ cap := by omega
      have hbg2 : b ≠ g := hnb'.out ⟨b, off, none⟩ rfl
      by_cases hce : cap = 64
      · have hd : all.drop (64 * (j + 1)) = [] := by
          rcases he3.out with ⟨h0, _⟩ | ⟨_, _, _, _, hlc, _⟩
          · have := congrArg List.length h0; simp at this
            apply List.drop_eq_nil_of_le; omega
          · simp at hlc
            apply List.drop_eq_nil_of_le; omega
        have HD := Lib.hid hd
        have hll : Hid (all.length - 64 * j - 64 = 0) := by have := congrArg List.length hd; simp at this; show _ = _; omega
        have hce' : ((cap : Nat) : Int) = 64 := by omega
        clear hd
        go_wp2_with fail
        go_roundg (gk - 1)
        case measure => omega
        case rel =>
          refine ⟨j + 1, some ⟨b, off, none⟩, cap - 64, by omega, (((((((((hb3.out.setCell (p := ⟨g, 0, none⟩) hbg _).setCell (p := ⟨g, 1, none⟩) hbg _).setCell (p := ⟨g, 2, none⟩) hbg _).setCell (p := ⟨g, 3, none⟩) hbg _).setCell (p := ⟨g, 4, none⟩) hbg _).setCell (p := ⟨g, 5, none⟩) hbg _).setCell (p := ⟨g, 6, none⟩) hbg _).setCell (p := ⟨g, 7, none⟩) hbg _).setCell (p := ⟨g, 8, none⟩) hbg _), ?_, ?_, hnb'.out⟩
          · rw [heap_setCell (heap_setCell (heap_setCell (heap_setCell (heap_setCell (heap_setCell (heap_setCell (heap_setCell (heap_setCell HG3.out 0 _) 1 _) 2 _) 3 _) 4 _) 5 _) 6 _) 7 _) 8 _, hmix.out, show all.length - 64 * (j + 1) = all.length - 64 * j - 64 by omega]
            simp [hcells]
            omega
          · rw [HD.out]; exact .inl ⟨rfl, by have : maxLen = 9223372036854775807 := rfl; omega, by simp⟩
      · have hce' : (64 : Int) < cap := by omega
        go_wp2_with fail
        go_roundg (gk - 1)
        case measure => omega
        case rel =>
          refine ⟨j + 1, some ⟨b, off + 64, none⟩, cap - 64, by omega, (((((((((hb3.out.setCell (p := ⟨g, 0, none⟩) hbg _).setCell (p := ⟨g, 1, none⟩) hbg _).setCell (p := ⟨g, 2, none⟩) hbg _).setCell (p := ⟨g, 3, none⟩) hbg _).setCell (p := ⟨g, 4, none⟩) hbg _).setCell (p := ⟨g, 5, none⟩) hbg _).setCell (p := ⟨g, 6, none⟩) hbg _).setCell (p := ⟨g, 7, none⟩) hbg _).setCell (p := ⟨g, 8, none⟩) hbg _), ?_, ?_, by rintro x e; cases e; exact hbg2⟩
          · rw [heap_setCell (heap_setCell (heap_setCell (heap_setCell (heap_setCell (heap_setCell (heap_setCell (heap_setCell (heap_setCell HG3.out 0 _) 1 _) 2 _) 3 _) 4 _) 5 _) 6 _) 7 _) 8 _, hmix.out, show all.length - 64 * (j + 1) = all.length - 64 * j - 64 by omega]
            simp [hcells]
          · have hd := he3.out.drop 64 (by simp; omega)
            rw [List.drop_drop, show 64 * j + 64 = 64 * (j + 1) by omega] at hd
            exact (ElemsAt.setCell (c := byteV) (ElemsAt.setCell (c := byteV) (ElemsAt.setCell (c := byteV) (ElemsAt.setCell (c := byteV) (ElemsAt.setCell (c := byteV) (ElemsAt.setCell (c := byteV) (ElemsAt.setCell (c := byteV) (ElemsAt.setCell (c := byteV) (ElemsAt.setCell (c := byteV) hd ⟨g, 0, none⟩ (by rintro x e; cases e; exact hbg2) _) ⟨g, 1, none⟩ (by rintro x e; cases e; exact hbg2) _) ⟨g, 2, none⟩ (by rintro x e; cases e; exact hbg2) _) ⟨g, 3, none⟩ (by rintro x e; cases e; exact hbg2) _) ⟨g, 4, none⟩ (by rintro x e; cases e; exact hbg2) _) ⟨g, 5, none⟩ (by rintro x e; cases e; exact hbg2) _) ⟨g, 6, none⟩ (by rintro x e; cases e; exact hbg2) _) ⟨g, 7, none⟩ (by rintro x e; cases e; exact hbg2) _) ⟨g, 8, none⟩ (by rintro x e; cases e; exact hbg2) _)
    · have ej : j = all.length / 64 := by omega
      have hlt64 : ((all.length - 64 * j : Nat) : Int) < 64 := by omega
      have hdl : (all.drop (64 * j)).length = all.length - 64 * j := by simp
      have HDL := Lib.hid hdl
      have EJ := Lib.hid ej
      have c8 := cell_of hg 8
      have z8 := frozen_of hg 8
      simp [hcells] at c8
      have hbw := hb'.out.size
      clear hg hdl ej
      go_wp2_with (at_builtin; refine wpList_append_flat byteV byteV_one rfl _ _ 49 rfl base 5 (.int .u8 0) 1 Tryz.underlying49 info_byte rfl (.slice none 0 0) 0 [] rfl (World.ownsRow_nil _ _ _ _) a (all.length - 64 * j) cap (all.drop (64 * j)) HDL.out rfl he'.out (by omega) (by decide) (by omega) ?_)
      intro v2 w4 hown4 hgr4
      replace hown4 : w4.ownsRow base 5 1 v2 (all.length - 64 * j) ((all.drop (64 * j)).map byteV) := by first | exact hown4 | (rw [List.map_drop]; exact hown4) | simpa using hown4
      have hg4 : w4.heap[g]? = _ := (hgr4.block g (lt_of_heap hg'.out) (by simp [Value.ownBlock])).trans hg'.out
      have hb4 : Below base w w4 := hb'.out.grown hgr4 (by omega) (fun k hk => by simp [Value.ownBlock] at hk)
      have hne4 := ownBlock_ne hown4 hg4 (by decide)
      obtain ⟨a4, cap4, hv4, _⟩ := elems_of_owned byteV hown4
      rw [hv4, HDL.out] at hown4 hne4
      rw [hv4, HDL.out]
      have c8' := cell_of hg4 8
      have z8' := frozen_of hg4 8
      simp [hcells] at c8'
      have hg5 := Lib.hid (heap_setCell hg4 8 (.slice a4 (all.length - 64 * j) cap4))
      have hown5 := Lib.hid (ownsRow_setCell_ne hown4 ⟨g, 8, none⟩ hne4 (.slice a4 (all.length - 64 * j) cap4))
      have hb5 := Lib.hid (hb4.setCell (p := ⟨g, 8, none⟩) hbg (.slice a4 (all.length - 64 * j) cap4))
      clear hgr4 hg4 hb4 hown4 hne4 hv4 c8 z8
      go_wp2
      go_end0
      refine ⟨rfl, ⟨.slice a4 (all.length - 64 * j) cap4, hbg, ?_, ?_⟩, hb5.out⟩
      · rw [hg5.out, Sha.blocks_append, HS.out, HR.out, HALL.out, EJ.out]
        simp [hcells, Sha.blocks]
      · have e : Sha.rest (m ++ s.data.toList) = all.drop (64 * j) := by rw [Sha.rest_append, HR.out, HALL.out, EJ.out]; rfl
        rw [e, HDL.out]
        exact hown5.out
end Go.Proofs.YtmnebimijlnlkaaGreatDoor
