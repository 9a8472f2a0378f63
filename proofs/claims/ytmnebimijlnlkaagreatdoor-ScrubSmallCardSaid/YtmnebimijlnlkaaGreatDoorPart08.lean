/-
  Loads, stores, addresses, new blocks of the types that a disk's world has.
  A disk, in plain words: what is synced, what was written since; what its methods answer.
  What stays of a memory.
  Sums within bounds; the lesser and the greater.
  The walks of a disk's methods.
  The walk of a disk's Sync.
  The walks of the epoch's sector.
  Sectors of zeros: no entry, no record.
  The walk of scrub.Scan on a disk of zeros, but for its epoch.
  A new block that turns.
  The walk of scrub.Scan on a disk of zeros, but for its epoch: the whole.
  A function that is to do something behind its body.
  A function that is to do something behind its body: its walk.
  The walk of epoch.Next.
-/
import Derived.Test.YtmnebimijlnlkaaGreatDoorPart07
import Derived.Test.YtmnebimijlnlkaaGreatDoorPart01
import Derived.Test.YtmnebimijlnlkaaGreatDoorPart04
import Derived.Defers
import Derived.Test.YtmnebimijlnlkaaGreatDoorPart06
set_option linter.unusedSimpArgs false
set_option linter.unusedVariables false
set_option linter.unusedSectionVars false
set_option linter.unnecessarySimpa false
set_option linter.defProp false
namespace Go.Proofs.YtmnebimijlnlkaaGreatDoor
open Go.RowKit Abs
theorem inf_Dsk : Tryz.prog.info? 63 = some Tryz.t63 := by kernel_rfl
theorem sz_Dsk : Tryz.t63.size = 4 := rfl
theorem ld_Dsk (get : Nat → Option Blk) (b o : Nat) : gLoad Tryz.prog get 63 (.pointer (some ⟨b, o, none⟩)) = rowIn 4 o (get b) := ld_row Tryz.underlying63 (row_struct _) inf_Dsk rfl get b o
theorem st_Dsk (m : Mem) (b o : Nat) (v : Value) : aStore Tryz.prog m 63 (.pointer (some ⟨b, o, none⟩)) v = putIn 4 m b o v.cells.toList (m.get b) := st_any inf_Dsk rfl m b o v
theorem al_Dsk : nAlloc Tryz.prog 63 = some (.cells false (aStride Tryz.prog 63) [.slice none 0 0, .map none, .int .i64 0, .bool false]) := by kernel_rfl
theorem bx_Dsk (xs : Array Value) (h : oneAll xs.toList = true) : nBox Tryz.prog 63 (.agg xs) = some (.cells false (aStride Tryz.prog 63) xs.toList) := nBox_row 63 h
theorem fa_Dsk0 (b o : Nat) : aFieldAddr Tryz.prog 63 (.pointer (some ⟨b, o, none⟩)) 0 = some (.pointer (some ⟨b, o, none⟩)) := by kernel_rfl
theorem fa_Dsk1 (b o : Nat) : aFieldAddr Tryz.prog 63 (.pointer (some ⟨b, o, none⟩)) 1 = some (.pointer (some ⟨b, o + 1, none⟩)) := by kernel_rfl
theorem fa_Dsk2 (b o : Nat) : aFieldAddr Tryz.prog 63 (.pointer (some ⟨b, o, none⟩)) 2 = some (.pointer (some ⟨b, o + 2, none⟩)) := by kernel_rfl
theorem fa_Dsk3 (b o : Nat) : aFieldAddr Tryz.prog 63 (.pointer (some ⟨b, o, none⟩)) 3 = some (.pointer (some ⟨b, o + 3, none⟩)) := by kernel_rfl
theorem inf_Scn : Tryz.prog.info? 71 = some Tryz.t71 := by kernel_rfl
theorem sz_Scn : Tryz.t71.size = 5 := rfl
theorem ld_Scn (get : Nat → Option Blk) (b o : Nat) : gLoad Tryz.prog get 71 (.pointer (some ⟨b, o, none⟩)) = rowIn 5 o (get b) := ld_row Tryz.underlying71 (row_struct _) inf_Scn rfl get b o
theorem st_Scn (m : Mem) (b o : Nat) (v : Value) : aStore Tryz.prog m 71 (.pointer (some ⟨b, o, none⟩)) v = putIn 5 m b o v.cells.toList (m.get b) := st_any inf_Scn rfl m b o v
theorem al_Scn : nAlloc Tryz.prog 71 = some (.cells false (aStride Tryz.prog 71) [.pointer none, .string ⟨#[]⟩, .slice none 0 0, .slice none 0 0, .slice none 0 0]) := by kernel_rfl
theorem bx_Scn (xs : Array Value) (h : oneAll xs.toList = true) : nBox Tryz.prog 71 (.agg xs) = some (.cells false (aStride Tryz.prog 71) xs.toList) := nBox_row 71 h
theorem fa_Scn0 (b o : Nat) : aFieldAddr Tryz.prog 71 (.pointer (some ⟨b, o, none⟩)) 0 = some (.pointer (some ⟨b, o, none⟩)) := by kernel_rfl
theorem fa_Scn1 (b o : Nat) : aFieldAddr Tryz.prog 71 (.pointer (some ⟨b, o, none⟩)) 1 = some (.pointer (some ⟨b, o + 1, none⟩)) := by kernel_rfl
theorem fa_Scn2 (b o : Nat) : aFieldAddr Tryz.prog 71 (.pointer (some ⟨b, o, none⟩)) 2 = some (.pointer (some ⟨b, o + 2, none⟩)) := by kernel_rfl
theorem fa_Scn3 (b o : Nat) : aFieldAddr Tryz.prog 71 (.pointer (some ⟨b, o, none⟩)) 3 = some (.pointer (some ⟨b, o + 3, none⟩)) := by kernel_rfl
theorem fa_Scn4 (b o : Nat) : aFieldAddr Tryz.prog 71 (.pointer (some ⟨b, o, none⟩)) 4 = some (.pointer (some ⟨b, o + 4, none⟩)) := by kernel_rfl
theorem inf_Sec : Tryz.prog.info? 27 = some Tryz.t27 := by kernel_rfl
theorem sz_Sec : Tryz.t27.size = 3 := rfl
theorem ld_Sec (get : Nat → Option Blk) (b o : Nat) : gLoad Tryz.prog get 27 (.pointer (some ⟨b, o, none⟩)) = rowIn 3 o (get b) := ld_row Tryz.underlying27 (row_struct _) inf_Sec rfl get b o
theorem st_Sec (m : Mem) (b o : Nat) (v : Value) : aStore Tryz.prog m 27 (.pointer (some ⟨b, o, none⟩)) v = putIn 3 m b o v.cells.toList (m.get b) := st_any inf_Sec rfl m b o v
theorem al_Sec : nAlloc Tryz.prog 27 = some (.cells false (aStride Tryz.prog 27) [.int .i64 0, .int .i64 0, .int .i64 0]) := by kernel_rfl
theorem fa_Sec0 (b o : Nat) : aFieldAddr Tryz.prog 27 (.pointer (some ⟨b, o, none⟩)) 0 = some (.pointer (some ⟨b, o, none⟩)) := by kernel_rfl
theorem fa_Sec1 (b o : Nat) : aFieldAddr Tryz.prog 27 (.pointer (some ⟨b, o, none⟩)) 1 = some (.pointer (some ⟨b, o + 1, none⟩)) := by kernel_rfl
theorem fa_Sec2 (b o : Nat) : aFieldAddr Tryz.prog 27 (.pointer (some ⟨b, o, none⟩)) 2 = some (.pointer (some ⟨b, o + 2, none⟩)) := by kernel_rfl
theorem inf_Flt : Tryz.prog.info? 176 = some Tryz.t176 := by kernel_rfl
theorem sz_Flt : Tryz.t176.size = 2 := rfl
theorem ld_Flt (get : Nat → Option Blk) (b o : Nat) : gLoad Tryz.prog get 176 (.pointer (some ⟨b, o, none⟩)) = rowIn 2 o (get b) := ld_row Tryz.underlying176 (row_struct _) inf_Flt rfl get b o
theorem st_Flt (m : Mem) (b o : Nat) (v : Value) : aStore Tryz.prog m 176 (.pointer (some ⟨b, o, none⟩)) v = putIn 2 m b o v.cells.toList (m.get b) := st_any inf_Flt rfl m b o v
theorem al_Flt : nAlloc Tryz.prog 176 = some (.cells false (aStride Tryz.prog 176) [.int .i64 0, .int .i64 0]) := by kernel_rfl
theorem fa_Flt0 (b o : Nat) : aFieldAddr Tryz.prog 176 (.pointer (some ⟨b, o, none⟩)) 0 = some (.pointer (some ⟨b, o, none⟩)) := by kernel_rfl
theorem fa_Flt1 (b o : Nat) : aFieldAddr Tryz.prog 176 (.pointer (some ⟨b, o, none⟩)) 1 = some (.pointer (some ⟨b, o + 1, none⟩)) := by kernel_rfl
theorem inf_Hdr : Tryz.prog.info? 73 = some Tryz.t73 := by kernel_rfl
theorem sz_Hdr : Tryz.t73.size = 7 := rfl
theorem ld_Hdr (get : Nat → Option Blk) (b o : Nat) : gLoad Tryz.prog get 73 (.pointer (some ⟨b, o, none⟩)) = rowIn 7 o (get b) := ld_row Tryz.underlying73 (row_struct _) inf_Hdr rfl get b o
theorem st_Hdr (m : Mem) (b o : Nat) (v : Value) : aStore Tryz.prog m 73 (.pointer (some ⟨b, o, none⟩)) v = putIn 7 m b o v.cells.toList (m.get b) := st_any inf_Hdr rfl m b o v
theorem al_Hdr : nAlloc Tryz.prog 73 = some (.cells false (aStride Tryz.prog 73) [.int .i64 0, .string ⟨#[]⟩, .int .i64 0, .int .i64 0, .int .i64 0, .string ⟨#[]⟩, .string ⟨#[]⟩]) := by kernel_rfl
theorem fa_Hdr0 (b o : Nat) : aFieldAddr Tryz.prog 73 (.pointer (some ⟨b, o, none⟩)) 0 = some (.pointer (some ⟨b, o, none⟩)) := by kernel_rfl
theorem fa_Hdr1 (b o : Nat) : aFieldAddr Tryz.prog 73 (.pointer (some ⟨b, o, none⟩)) 1 = some (.pointer (some ⟨b, o + 1, none⟩)) := by kernel_rfl
theorem fa_Hdr2 (b o : Nat) : aFieldAddr Tryz.prog 73 (.pointer (some ⟨b, o, none⟩)) 2 = some (.pointer (some ⟨b, o + 2, none⟩)) := by kernel_rfl
theorem fa_Hdr3 (b o : Nat) : aFieldAddr Tryz.prog 73 (.pointer (some ⟨b, o, none⟩)) 3 = some (.pointer (some ⟨b, o + 3, none⟩)) := by kernel_rfl
theorem fa_Hdr4 (b o : Nat) : aFieldAddr Tryz.prog 73 (.pointer (some ⟨b, o, none⟩)) 4 = some (.pointer (some ⟨b, o + 4, none⟩)) := by kernel_rfl
theorem fa_Hdr5 (b o : Nat) : aFieldAddr Tryz.prog 73 (.pointer (some ⟨b, o, none⟩)) 5 = some (.pointer (some ⟨b, o + 5, none⟩)) := by kernel_rfl
theorem fa_Hdr6 (b o : Nat) : aFieldAddr Tryz.prog 73 (.pointer (some ⟨b, o, none⟩)) 6 = some (.pointer (some ⟨b, o + 6, none⟩)) := by kernel_rfl
theorem inf_Ext : Tryz.prog.info? 75 = some Tryz.t75 := by kernel_rfl
theorem sz_Ext : Tryz.t75.size = 8 := rfl
theorem ld_Ext (get : Nat → Option Blk) (b o : Nat) : gLoad Tryz.prog get 75 (.pointer (some ⟨b, o, none⟩)) = rowIn 8 o (get b) := ld_row Tryz.underlying75 (row_struct _) inf_Ext rfl get b o
theorem st_Ext (m : Mem) (b o : Nat) (v : Value) : aStore Tryz.prog m 75 (.pointer (some ⟨b, o, none⟩)) v = putIn 8 m b o v.cells.toList (m.get b) := st_any inf_Ext rfl m b o v
theorem al_Ext : nAlloc Tryz.prog 75 = some (.cells false (aStride Tryz.prog 75) [.int .i64 0, .string ⟨#[]⟩, .int .i64 0, .int .i64 0, .int .i64 0, .string ⟨#[]⟩, .string ⟨#[]⟩, .int .i64 0]) := by kernel_rfl
theorem bx_Ext (xs : Array Value) (h : oneAll xs.toList = true) : nBox Tryz.prog 75 (.agg xs) = some (.cells false (aStride Tryz.prog 75) xs.toList) := nBox_row 75 h
theorem fa_Ext0 (b o : Nat) : aFieldAddr Tryz.prog 75 (.pointer (some ⟨b, o, none⟩)) 0 = some (.pointer (some ⟨b, o, none⟩)) := by kernel_rfl
theorem fa_Ext1 (b o : Nat) : aFieldAddr Tryz.prog 75 (.pointer (some ⟨b, o, none⟩)) 1 = some (.pointer (some ⟨b, o + 7, none⟩)) := by kernel_rfl
theorem inf_Keys : Tryz.prog.info? 67 = some Tryz.t67 := by kernel_rfl
theorem sz_Keys : Tryz.t67.size = 3 := rfl
theorem ld_Keys (get : Nat → Option Blk) (b o : Nat) : gLoad Tryz.prog get 67 (.pointer (some ⟨b, o, none⟩)) = rowIn 3 o (get b) := ld_row Tryz.underlying67 (row_struct _) inf_Keys rfl get b o
theorem st_Keys (m : Mem) (b o : Nat) (v : Value) : aStore Tryz.prog m 67 (.pointer (some ⟨b, o, none⟩)) v = putIn 3 m b o v.cells.toList (m.get b) := st_any inf_Keys rfl m b o v
theorem al_Keys : nAlloc Tryz.prog 67 = some (.cells false (aStride Tryz.prog 67) [.string ⟨#[]⟩, .string ⟨#[]⟩, .string ⟨#[]⟩]) := by kernel_rfl
theorem fa_Keys0 (b o : Nat) : aFieldAddr Tryz.prog 67 (.pointer (some ⟨b, o, none⟩)) 0 = some (.pointer (some ⟨b, o, none⟩)) := by kernel_rfl
theorem fa_Keys1 (b o : Nat) : aFieldAddr Tryz.prog 67 (.pointer (some ⟨b, o, none⟩)) 1 = some (.pointer (some ⟨b, o + 1, none⟩)) := by kernel_rfl
theorem fa_Keys2 (b o : Nat) : aFieldAddr Tryz.prog 67 (.pointer (some ⟨b, o, none⟩)) 2 = some (.pointer (some ⟨b, o + 2, none⟩)) := by kernel_rfl
theorem inf_Dep : Tryz.prog.info? 112 = some Tryz.t112 := by kernel_rfl
theorem sz_Dep : Tryz.t112.size = 16 := rfl
theorem ld_Dep (get : Nat → Option Blk) (b o : Nat) : gLoad Tryz.prog get 112 (.pointer (some ⟨b, o, none⟩)) = rowIn 16 o (get b) := ld_row Tryz.underlying112 (row_struct _) inf_Dep rfl get b o
theorem st_Dep (m : Mem) (b o : Nat) (v : Value) : aStore Tryz.prog m 112 (.pointer (some ⟨b, o, none⟩)) v = putIn 16 m b o v.cells.toList (m.get b) := st_any inf_Dep rfl m b o v
theorem al_Dep : nAlloc Tryz.prog 112 = some (.cells false (aStride Tryz.prog 112) [.pointer none, .string ⟨#[]⟩, .int .i64 0, .pointer none, .pointer none, .pointer none, .pointer none, .pointer none, .pointer none, .pointer none, .pointer none, .pointer none, .pointer none, .pointer none, .pointer none, .int .i64 0]) := by kernel_rfl
theorem bx_Dep (xs : Array Value) (h : oneAll xs.toList = true) : nBox Tryz.prog 112 (.agg xs) = some (.cells false (aStride Tryz.prog 112) xs.toList) := nBox_row 112 h
theorem fa_Dep0 (b o : Nat) : aFieldAddr Tryz.prog 112 (.pointer (some ⟨b, o, none⟩)) 0 = some (.pointer (some ⟨b, o, none⟩)) := by kernel_rfl
theorem fa_Dep1 (b o : Nat) : aFieldAddr Tryz.prog 112 (.pointer (some ⟨b, o, none⟩)) 1 = some (.pointer (some ⟨b, o + 1, none⟩)) := by kernel_rfl
theorem fa_Dep2 (b o : Nat) : aFieldAddr Tryz.prog 112 (.pointer (some ⟨b, o, none⟩)) 2 = some (.pointer (some ⟨b, o + 2, none⟩)) := by kernel_rfl
theorem fa_Dep3 (b o : Nat) : aFieldAddr Tryz.prog 112 (.pointer (some ⟨b, o, none⟩)) 3 = some (.pointer (some ⟨b, o + 3, none⟩)) := by kernel_rfl
theorem fa_Dep4 (b o : Nat) : aFieldAddr Tryz.prog 112 (.pointer (some ⟨b, o, none⟩)) 4 = some (.pointer (some ⟨b, o + 7, none⟩)) := by kernel_rfl
theorem fa_Dep5 (b o : Nat) : aFieldAddr Tryz.prog 112 (.pointer (some ⟨b, o, none⟩)) 5 = some (.pointer (some ⟨b, o + 15, none⟩)) := by kernel_rfl
theorem inf_Set : Tryz.prog.info? 83 = some Tryz.t83 := by kernel_rfl
theorem sz_Set : Tryz.t83.size = 5 := rfl
theorem ld_Set (get : Nat → Option Blk) (b o : Nat) : gLoad Tryz.prog get 83 (.pointer (some ⟨b, o, none⟩)) = rowIn 5 o (get b) := ld_row Tryz.underlying83 (row_struct _) inf_Set rfl get b o
theorem st_Set (m : Mem) (b o : Nat) (v : Value) : aStore Tryz.prog m 83 (.pointer (some ⟨b, o, none⟩)) v = putIn 5 m b o v.cells.toList (m.get b) := st_any inf_Set rfl m b o v
theorem al_Set : nAlloc Tryz.prog 83 = some (.cells false (aStride Tryz.prog 83) [.int .i64 0, .int .u64 0, .int .u64 0, .int .u64 0, .int .u64 0]) := by kernel_rfl
theorem fa_Set0 (b o : Nat) : aFieldAddr Tryz.prog 83 (.pointer (some ⟨b, o, none⟩)) 0 = some (.pointer (some ⟨b, o, none⟩)) := by kernel_rfl
theorem fa_Set1 (b o : Nat) : aFieldAddr Tryz.prog 83 (.pointer (some ⟨b, o, none⟩)) 1 = some (.pointer (some ⟨b, o + 1, none⟩)) := by kernel_rfl
theorem inf_Rec : Tryz.prog.info? 85 = some Tryz.t85 := by kernel_rfl
theorem sz_Rec : Tryz.t85.size = 13 := rfl
theorem ld_Rec (get : Nat → Option Blk) (b o : Nat) : gLoad Tryz.prog get 85 (.pointer (some ⟨b, o, none⟩)) = rowIn 13 o (get b) := ld_row Tryz.underlying85 (row_struct _) inf_Rec rfl get b o
theorem st_Rec (m : Mem) (b o : Nat) (v : Value) : aStore Tryz.prog m 85 (.pointer (some ⟨b, o, none⟩)) v = putIn 13 m b o v.cells.toList (m.get b) := st_any inf_Rec rfl m b o v
theorem al_Rec : nAlloc Tryz.prog 85 = some (.cells false (aStride Tryz.prog 85) [.int .i64 0, .string ⟨#[]⟩, .int .i64 0, .int .i64 0, .int .i64 0, .string ⟨#[]⟩, .string ⟨#[]⟩, .int .i64 0, .int .i64 0, .int .u64 0, .int .u64 0, .int .u64 0, .int .u64 0]) := by kernel_rfl
theorem fa_Rec0 (b o : Nat) : aFieldAddr Tryz.prog 85 (.pointer (some ⟨b, o, none⟩)) 0 = some (.pointer (some ⟨b, o, none⟩)) := by kernel_rfl
theorem fa_Rec1 (b o : Nat) : aFieldAddr Tryz.prog 85 (.pointer (some ⟨b, o, none⟩)) 1 = some (.pointer (some ⟨b, o + 8, none⟩)) := by kernel_rfl
theorem inf_A8 : Tryz.prog.info? 110 = some Tryz.t110 := by kernel_rfl
theorem sz_A8 : Tryz.t110.size = 8 := rfl
theorem ld_A8 (get : Nat → Option Blk) (b o : Nat) : gLoad Tryz.prog get 110 (.pointer (some ⟨b, o, none⟩)) = rowIn 8 o (get b) := ld_row Tryz.underlying110 (row_array _ _) inf_A8 rfl get b o
theorem st_A8 (m : Mem) (b o : Nat) (v : Value) : aStore Tryz.prog m 110 (.pointer (some ⟨b, o, none⟩)) v = putIn 8 m b o v.cells.toList (m.get b) := st_any inf_A8 rfl m b o v
theorem al_A8 : nAlloc Tryz.prog 110 = some (.cells false (aStride Tryz.prog 110) [.pointer none, .pointer none, .pointer none, .pointer none, .pointer none, .pointer none, .pointer none, .pointer none]) := by kernel_rfl
theorem inf_A4 : Tryz.prog.info? 108 = some Tryz.t108 := by kernel_rfl
theorem sz_A4 : Tryz.t108.size = 4 := rfl
theorem ld_A4 (get : Nat → Option Blk) (b o : Nat) : gLoad Tryz.prog get 108 (.pointer (some ⟨b, o, none⟩)) = rowIn 4 o (get b) := ld_row Tryz.underlying108 (row_array _ _) inf_A4 rfl get b o
theorem st_A4 (m : Mem) (b o : Nat) (v : Value) : aStore Tryz.prog m 108 (.pointer (some ⟨b, o, none⟩)) v = putIn 4 m b o v.cells.toList (m.get b) := st_any inf_A4 rfl m b o v
theorem al_A4 : nAlloc Tryz.prog 108 = some (.cells false (aStride Tryz.prog 108) [.pointer none, .pointer none, .pointer none, .pointer none]) := by kernel_rfl
theorem inf_Str : Tryz.prog.info? 9 = some Tryz.t9 := by kernel_rfl
theorem sz_Str : Tryz.t9.size = 1 := rfl
theorem ld_Str (get : Nat → Option Blk) (b o : Nat) : gLoad Tryz.prog get 9 (.pointer (some ⟨b, o, none⟩)) = cellIn o (get b) := ld_cell Tryz.underlying9 rfl get b o
theorem st_Str (m : Mem) (b o : Nat) (v : Value) : aStore Tryz.prog m 9 (.pointer (some ⟨b, o, none⟩)) v = putIn 1 m b o v.cells.toList (m.get b) := st_any inf_Str rfl m b o v
theorem al_Str : nAlloc Tryz.prog 9 = some (.cells false (aStride Tryz.prog 9) [.string ⟨#[]⟩]) := by kernel_rfl
theorem inf_Int : Tryz.prog.info? 3 = some Tryz.t3 := by kernel_rfl
theorem sz_Int : Tryz.t3.size = 1 := rfl
theorem ld_Int (get : Nat → Option Blk) (b o : Nat) : gLoad Tryz.prog get 3 (.pointer (some ⟨b, o, none⟩)) = cellIn o (get b) := ld_cell Tryz.underlying3 rfl get b o
theorem st_Int (m : Mem) (b o : Nat) (v : Value) : aStore Tryz.prog m 3 (.pointer (some ⟨b, o, none⟩)) v = putIn 1 m b o v.cells.toList (m.get b) := st_any inf_Int rfl m b o v
theorem al_Int : nAlloc Tryz.prog 3 = some (.cells false (aStride Tryz.prog 3) [.int .i64 0]) := by kernel_rfl
theorem inf_Bool : Tryz.prog.info? 4 = some Tryz.t4 := by kernel_rfl
theorem sz_Bool : Tryz.t4.size = 1 := rfl
theorem ld_Bool (get : Nat → Option Blk) (b o : Nat) : gLoad Tryz.prog get 4 (.pointer (some ⟨b, o, none⟩)) = cellIn o (get b) := ld_cell Tryz.underlying4 rfl get b o
theorem st_Bool (m : Mem) (b o : Nat) (v : Value) : aStore Tryz.prog m 4 (.pointer (some ⟨b, o, none⟩)) v = putIn 1 m b o v.cells.toList (m.get b) := st_any inf_Bool rfl m b o v
theorem al_Bool : nAlloc Tryz.prog 4 = some (.cells false (aStride Tryz.prog 4) [.bool false]) := by kernel_rfl
theorem inf_SS : Tryz.prog.info? 58 = some Tryz.t58 := by kernel_rfl
theorem sz_SS : Tryz.t58.size = 1 := rfl
theorem ld_SS (get : Nat → Option Blk) (b o : Nat) : gLoad Tryz.prog get 58 (.pointer (some ⟨b, o, none⟩)) = cellIn o (get b) := ld_cell Tryz.underlying58 rfl get b o
theorem st_SS (m : Mem) (b o : Nat) (v : Value) : aStore Tryz.prog m 58 (.pointer (some ⟨b, o, none⟩)) v = putIn 1 m b o v.cells.toList (m.get b) := st_any inf_SS rfl m b o v
theorem al_SS : nAlloc Tryz.prog 58 = some (.cells false (aStride Tryz.prog 58) [.slice none 0 0]) := by kernel_rfl
theorem inf_Err : Tryz.prog.info? 33 = some Tryz.t33 := by kernel_rfl
theorem sz_Err : Tryz.t33.size = 1 := rfl
theorem ld_Err (get : Nat → Option Blk) (b o : Nat) : gLoad Tryz.prog get 33 (.pointer (some ⟨b, o, none⟩)) = cellIn o (get b) := ld_cell Tryz.underlying33 rfl get b o
theorem st_Err (m : Mem) (b o : Nat) (v : Value) : aStore Tryz.prog m 33 (.pointer (some ⟨b, o, none⟩)) v = putIn 1 m b o v.cells.toList (m.get b) := st_any inf_Err rfl m b o v
theorem al_Err : nAlloc Tryz.prog 33 = some (.cells false (aStride Tryz.prog 33) [.int .i64 0]) := by kernel_rfl
theorem inf_Map : Tryz.prog.info? 61 = some Tryz.t61 := by kernel_rfl
theorem sz_Map : Tryz.t61.size = 1 := rfl
theorem ld_Map (get : Nat → Option Blk) (b o : Nat) : gLoad Tryz.prog get 61 (.pointer (some ⟨b, o, none⟩)) = cellIn o (get b) := ld_cell Tryz.underlying61 rfl get b o
theorem st_Map (m : Mem) (b o : Nat) (v : Value) : aStore Tryz.prog m 61 (.pointer (some ⟨b, o, none⟩)) v = putIn 1 m b o v.cells.toList (m.get b) := st_any inf_Map rfl m b o v
theorem al_Map : nAlloc Tryz.prog 61 = some (.cells false (aStride Tryz.prog 61) [.map none]) := by kernel_rfl
theorem inf_PD : Tryz.prog.info? 32 = some Tryz.t32 := by kernel_rfl
theorem sz_PD : Tryz.t32.size = 1 := rfl
theorem ld_PD (get : Nat → Option Blk) (b o : Nat) : gLoad Tryz.prog get 32 (.pointer (some ⟨b, o, none⟩)) = cellIn o (get b) := ld_cell Tryz.underlying32 rfl get b o
theorem st_PD (m : Mem) (b o : Nat) (v : Value) : aStore Tryz.prog m 32 (.pointer (some ⟨b, o, none⟩)) v = putIn 1 m b o v.cells.toList (m.get b) := st_any inf_PD rfl m b o v
theorem al_PD : nAlloc Tryz.prog 32 = some (.cells false (aStride Tryz.prog 32) [.pointer none]) := by kernel_rfl
theorem inf_Secs : Tryz.prog.info? 23 = some Tryz.t23 := by kernel_rfl
theorem sz_Secs : Tryz.t23.size = 1 := rfl
theorem ld_Secs (get : Nat → Option Blk) (b o : Nat) : gLoad Tryz.prog get 23 (.pointer (some ⟨b, o, none⟩)) = cellIn o (get b) := ld_cell Tryz.underlying23 rfl get b o
theorem st_Secs (m : Mem) (b o : Nat) (v : Value) : aStore Tryz.prog m 23 (.pointer (some ⟨b, o, none⟩)) v = putIn 1 m b o v.cells.toList (m.get b) := st_any inf_Secs rfl m b o v
theorem al_Secs : nAlloc Tryz.prog 23 = some (.cells false (aStride Tryz.prog 23) [.slice none 0 0]) := by kernel_rfl
theorem inf_Flts : Tryz.prog.info? 36 = some Tryz.t36 := by kernel_rfl
theorem sz_Flts : Tryz.t36.size = 1 := rfl
theorem ld_Flts (get : Nat → Option Blk) (b o : Nat) : gLoad Tryz.prog get 36 (.pointer (some ⟨b, o, none⟩)) = cellIn o (get b) := ld_cell Tryz.underlying36 rfl get b o
theorem st_Flts (m : Mem) (b o : Nat) (v : Value) : aStore Tryz.prog m 36 (.pointer (some ⟨b, o, none⟩)) v = putIn 1 m b o v.cells.toList (m.get b) := st_any inf_Flts rfl m b o v
theorem al_Flts : nAlloc Tryz.prog 36 = some (.cells false (aStride Tryz.prog 36) [.slice none 0 0]) := by kernel_rfl
theorem inf_Exts : Tryz.prog.info? 69 = some Tryz.t69 := by kernel_rfl
theorem sz_Exts : Tryz.t69.size = 1 := rfl
theorem ld_Exts (get : Nat → Option Blk) (b o : Nat) : gLoad Tryz.prog get 69 (.pointer (some ⟨b, o, none⟩)) = cellIn o (get b) := ld_cell Tryz.underlying69 rfl get b o
theorem st_Exts (m : Mem) (b o : Nat) (v : Value) : aStore Tryz.prog m 69 (.pointer (some ⟨b, o, none⟩)) v = putIn 1 m b o v.cells.toList (m.get b) := st_any inf_Exts rfl m b o v
theorem al_Exts : nAlloc Tryz.prog 69 = some (.cells false (aStride Tryz.prog 69) [.slice none 0 0]) := by kernel_rfl
theorem cl_int (k : IntKind) (n : Int) : (Value.int k n).cells.toList = [.int k n] := rfl
theorem oc_int (k : IntKind) (n : Int) : (Value.int k n).oneCell' = true := rfl
theorem cl_string (s : ByteArray) : (Value.string s).cells.toList = [.string s] := rfl
theorem oc_string (s : ByteArray) : (Value.string s).oneCell' = true := rfl
theorem cl_bool (b : Bool) : (Value.bool b).cells.toList = [.bool b] := rfl
theorem oc_bool (b : Bool) : (Value.bool b).oneCell' = true := rfl
theorem cl_sl (a : Option Addr) (n c : Nat) : (Value.slice a n c).cells.toList = [.slice a n c] := rfl
theorem oc_sl (a : Option Addr) (n c : Nat) : (Value.slice a n c).oneCell' = true := rfl
theorem cl_pt (a : Option Addr) : (Value.pointer a).cells.toList = [.pointer a] := rfl
theorem oc_pt (a : Option Addr) : (Value.pointer a).oneCell' = true := rfl
theorem cl_mp (a : Option Nat) : (Value.map a).cells.toList = [.map a] := rfl
theorem oc_mp (a : Option Nat) : (Value.map a).oneCell' = true := rfl
theorem oa_cons (v : Value) (r : List Value) : oneAll (v :: r) = (v.oneCell' && oneAll r) := rfl
theorem oa_nil : oneAll [] = true := rfl
theorem g_nt : ((none : Option Bool) == some true) = false := rfl
theorem g_nf : ((none : Option Bool) == some false) = false := rfl
theorem undef_eq : undef = .tuple #[] := rfl
theorem ta_v (l : List Value) : l.toArray.toList = l := rfl
theorem rw_1_0_1 (r : Bool) (s : Nat) (a0 : Value) : rowIn 1 0 (some (.cells r s [a0])) = some (.agg #[a0]) := rfl
theorem pt_1_0_1 (m : Mem) (j s : Nat) (a0 x0 : Value) (h : oneAll [x0] = true) : putIn 1 m j 0 [x0] (some (.cells false s [a0])) = some (m.set j (some (.cells false s [x0]))) := if_pos ⟨rfl, Nat.le_of_ble_eq_true rfl, h⟩
theorem rw_2_0_2 (r : Bool) (s : Nat) (a0 a1 : Value) : rowIn 2 0 (some (.cells r s [a0, a1])) = some (.agg #[a0, a1]) := rfl
theorem pt_2_0_2 (m : Mem) (j s : Nat) (a0 a1 x0 x1 : Value) (h : oneAll [x0, x1] = true) : putIn 2 m j 0 [x0, x1] (some (.cells false s [a0, a1])) = some (m.set j (some (.cells false s [x0, x1]))) := if_pos ⟨rfl, Nat.le_of_ble_eq_true rfl, h⟩
theorem pt_2_0_1 (m : Mem) (j s : Nat) (a0 a1 x0 : Value) (h : oneAll [x0] = true) : putIn 1 m j 0 [x0] (some (.cells false s [a0, a1])) = some (m.set j (some (.cells false s [x0, a1]))) := if_pos ⟨rfl, Nat.le_of_ble_eq_true rfl, h⟩
theorem pt_2_1_1 (m : Mem) (j s : Nat) (a0 a1 x0 : Value) (h : oneAll [x0] = true) : putIn 1 m j 1 [x0] (some (.cells false s [a0, a1])) = some (m.set j (some (.cells false s [a0, x0]))) := if_pos ⟨rfl, Nat.le_of_ble_eq_true rfl, h⟩
theorem rw_3_0_3 (r : Bool) (s : Nat) (a0 a1 a2 : Value) : rowIn 3 0 (some (.cells r s [a0, a1, a2])) = some (.agg #[a0, a1, a2]) := rfl
theorem pt_3_0_3 (m : Mem) (j s : Nat) (a0 a1 a2 x0 x1 x2 : Value) (h : oneAll [x0, x1, x2] = true) : putIn 3 m j 0 [x0, x1, x2] (some (.cells false s [a0, a1, a2])) = some (m.set j (some (.cells false s [x0, x1, x2]))) := if_pos ⟨rfl, Nat.le_of_ble_eq_true rfl, h⟩
theorem pt_3_0_1 (m : Mem) (j s : Nat) (a0 a1 a2 x0 : Value) (h : oneAll [x0] = true) : putIn 1 m j 0 [x0] (some (.cells false s [a0, a1, a2])) = some (m.set j (some (.cells false s [x0, a1, a2]))) := if_pos ⟨rfl, Nat.le_of_ble_eq_true rfl, h⟩
theorem pt_3_1_1 (m : Mem) (j s : Nat) (a0 a1 a2 x0 : Value) (h : oneAll [x0] = true) : putIn 1 m j 1 [x0] (some (.cells false s [a0, a1, a2])) = some (m.set j (some (.cells false s [a0, x0, a2]))) := if_pos ⟨rfl, Nat.le_of_ble_eq_true rfl, h⟩
theorem pt_3_2_1 (m : Mem) (j s : Nat) (a0 a1 a2 x0 : Value) (h : oneAll [x0] = true) : putIn 1 m j 2 [x0] (some (.cells false s [a0, a1, a2])) = some (m.set j (some (.cells false s [a0, a1, x0]))) := if_pos ⟨rfl, Nat.le_of_ble_eq_true rfl, h⟩
theorem rw_4_0_4 (r : Bool) (s : Nat) (a0 a1 a2 a3 : Value) : rowIn 4 0 (some (.cells r s [a0, a1, a2, a3])) = some (.agg #[a0, a1, a2, a3]) := rfl
theorem pt_4_0_4 (m : Mem) (j s : Nat) (a0 a1 a2 a3 x0 x1 x2 x3 : Value) (h : oneAll [x0, x1, x2, x3] = true) : putIn 4 m j 0 [x0, x1, x2, x3] (some (.cells false s [a0, a1, a2, a3])) = some (m.set j (some (.cells false s [x0, x1, x2, x3]))) := if_pos ⟨rfl, Nat.le_of_ble_eq_true rfl, h⟩
theorem pt_4_0_1 (m : Mem) (j s : Nat) (a0 a1 a2 a3 x0 : Value) (h : oneAll [x0] = true) : putIn 1 m j 0 [x0] (some (.cells false s [a0, a1, a2, a3])) = some (m.set j (some (.cells false s [x0, a1, a2, a3]))) := if_pos ⟨rfl, Nat.le_of_ble_eq_true rfl, h⟩
theorem pt_4_1_1 (m : Mem) (j s : Nat) (a0 a1 a2 a3 x0 : Value) (h : oneAll [x0] = true) : putIn 1 m j 1 [x0] (some (.cells false s [a0, a1, a2, a3])) = some (m.set j (some (.cells false s [a0, x0, a2, a3]))) := if_pos ⟨rfl, Nat.le_of_ble_eq_true rfl, h⟩
theorem pt_4_2_1 (m : Mem) (j s : Nat) (a0 a1 a2 a3 x0 : Value) (h : oneAll [x0] = true) : putIn 1 m j 2 [x0] (some (.cells false s [a0, a1, a2, a3])) = some (m.set j (some (.cells false s [a0, a1, x0, a3]))) := if_pos ⟨rfl, Nat.le_of_ble_eq_true rfl, h⟩
theorem pt_4_3_1 (m : Mem) (j s : Nat) (a0 a1 a2 a3 x0 : Value) (h : oneAll [x0] = true) : putIn 1 m j 3 [x0] (some (.cells false s [a0, a1, a2, a3])) = some (m.set j (some (.cells false s [a0, a1, a2, x0]))) := if_pos ⟨rfl, Nat.le_of_ble_eq_true rfl, h⟩
theorem rw_5_0_5 (r : Bool) (s : Nat) (a0 a1 a2 a3 a4 : Value) : rowIn 5 0 (some (.cells r s [a0, a1, a2, a3, a4])) = some (.agg #[a0, a1, a2, a3, a4]) := rfl
theorem pt_5_0_5 (m : Mem) (j s : Nat) (a0 a1 a2 a3 a4 x0 x1 x2 x3 x4 : Value) (h : oneAll [x0, x1, x2, x3, x4] = true) : putIn 5 m j 0 [x0, x1, x2, x3, x4] (some (.cells false s [a0, a1, a2, a3, a4])) = some (m.set j (some (.cells false s [x0, x1, x2, x3, x4]))) := if_pos ⟨rfl, Nat.le_of_ble_eq_true rfl, h⟩
theorem pt_5_0_1 (m : Mem) (j s : Nat) (a0 a1 a2 a3 a4 x0 : Value) (h : oneAll [x0] = true) : putIn 1 m j 0 [x0] (some (.cells false s [a0, a1, a2, a3, a4])) = some (m.set j (some (.cells false s [x0, a1, a2, a3, a4]))) := if_pos ⟨rfl, Nat.le_of_ble_eq_true rfl, h⟩
theorem pt_5_1_1 (m : Mem) (j s : Nat) (a0 a1 a2 a3 a4 x0 : Value) (h : oneAll [x0] = true) : putIn 1 m j 1 [x0] (some (.cells false s [a0, a1, a2, a3, a4])) = some (m.set j (some (.cells false s [a0, x0, a2, a3, a4]))) := if_pos ⟨rfl, Nat.le_of_ble_eq_true rfl, h⟩
theorem pt_5_2_1 (m : Mem) (j s : Nat) (a0 a1 a2 a3 a4 x0 : Value) (h : oneAll [x0] = true) : putIn 1 m j 2 [x0] (some (.cells false s [a0, a1, a2, a3, a4])) = some (m.set j (some (.cells false s [a0, a1, x0, a3, a4]))) := if_pos ⟨rfl, Nat.le_of_ble_eq_true rfl, h⟩
theorem pt_5_3_1 (m : Mem) (j s : Nat) (a0 a1 a2 a3 a4 x0 : Value) (h : oneAll [x0] = true) : putIn 1 m j 3 [x0] (some (.cells false s [a0, a1, a2, a3, a4])) = some (m.set j (some (.cells false s [a0, a1, a2, x0, a4]))) := if_pos ⟨rfl, Nat.le_of_ble_eq_true rfl, h⟩
theorem pt_5_4_1 (m : Mem) (j s : Nat) (a0 a1 a2 a3 a4 x0 : Value) (h : oneAll [x0] = true) : putIn 1 m j 4 [x0] (some (.cells false s [a0, a1, a2, a3, a4])) = some (m.set j (some (.cells false s [a0, a1, a2, a3, x0]))) := if_pos ⟨rfl, Nat.le_of_ble_eq_true rfl, h⟩
theorem rw_8_0_8 (r : Bool) (s : Nat) (a0 a1 a2 a3 a4 a5 a6 a7 : Value) : rowIn 8 0 (some (.cells r s [a0, a1, a2, a3, a4, a5, a6, a7])) = some (.agg #[a0, a1, a2, a3, a4, a5, a6, a7]) := rfl
theorem rw_8_0_7 (r : Bool) (s : Nat) (a0 a1 a2 a3 a4 a5 a6 a7 : Value) : rowIn 7 0 (some (.cells r s [a0, a1, a2, a3, a4, a5, a6, a7])) = some (.agg #[a0, a1, a2, a3, a4, a5, a6]) := rfl
theorem pt_8_0_8 (m : Mem) (j s : Nat) (a0 a1 a2 a3 a4 a5 a6 a7 x0 x1 x2 x3 x4 x5 x6 x7 : Value) (h : oneAll [x0, x1, x2, x3, x4, x5, x6, x7] = true) : putIn 8 m j 0 [x0, x1, x2, x3, x4, x5, x6, x7] (some (.cells false s [a0, a1, a2, a3, a4, a5, a6, a7])) = some (m.set j (some (.cells false s [x0, x1, x2, x3, x4, x5, x6, x7]))) := if_pos ⟨rfl, Nat.le_of_ble_eq_true rfl, h⟩
theorem pt_8_0_7 (m : Mem) (j s : Nat) (a0 a1 a2 a3 a4 a5 a6 a7 x0 x1 x2 x3 x4 x5 x6 : Value) (h : oneAll [x0, x1, x2, x3, x4, x5, x6] = true) : putIn 7 m j 0 [x0, x1, x2, x3, x4, x5, x6] (some (.cells false s [a0, a1, a2, a3, a4, a5, a6, a7])) = some (m.set j (some (.cells false s [x0, x1, x2, x3, x4, x5, x6, a7]))) := if_pos ⟨rfl, Nat.le_of_ble_eq_true rfl, h⟩
theorem pt_8_0_1 (m : Mem) (j s : Nat) (a0 a1 a2 a3 a4 a5 a6 a7 x0 : Value) (h : oneAll [x0] = true) : putIn 1 m j 0 [x0] (some (.cells false s [a0, a1, a2, a3, a4, a5, a6, a7])) = some (m.set j (some (.cells false s [x0, a1, a2, a3, a4, a5, a6, a7]))) := if_pos ⟨rfl, Nat.le_of_ble_eq_true rfl, h⟩
theorem pt_8_1_1 (m : Mem) (j s : Nat) (a0 a1 a2 a3 a4 a5 a6 a7 x0 : Value) (h : oneAll [x0] = true) : putIn 1 m j 1 [x0] (some (.cells false s [a0, a1, a2, a3, a4, a5, a6, a7])) = some (m.set j (some (.cells false s [a0, x0, a2, a3, a4, a5, a6, a7]))) := if_pos ⟨rfl, Nat.le_of_ble_eq_true rfl, h⟩
theorem pt_8_2_1 (m : Mem) (j s : Nat) (a0 a1 a2 a3 a4 a5 a6 a7 x0 : Value) (h : oneAll [x0] = true) : putIn 1 m j 2 [x0] (some (.cells false s [a0, a1, a2, a3, a4, a5, a6, a7])) = some (m.set j (some (.cells false s [a0, a1, x0, a3, a4, a5, a6, a7]))) := if_pos ⟨rfl, Nat.le_of_ble_eq_true rfl, h⟩
theorem pt_8_3_1 (m : Mem) (j s : Nat) (a0 a1 a2 a3 a4 a5 a6 a7 x0 : Value) (h : oneAll [x0] = true) : putIn 1 m j 3 [x0] (some (.cells false s [a0, a1, a2, a3, a4, a5, a6, a7])) = some (m.set j (some (.cells false s [a0, a1, a2, x0, a4, a5, a6, a7]))) := if_pos ⟨rfl, Nat.le_of_ble_eq_true rfl, h⟩
theorem pt_8_4_1 (m : Mem) (j s : Nat) (a0 a1 a2 a3 a4 a5 a6 a7 x0 : Value) (h : oneAll [x0] = true) : putIn 1 m j 4 [x0] (some (.cells false s [a0, a1, a2, a3, a4, a5, a6, a7])) = some (m.set j (some (.cells false s [a0, a1, a2, a3, x0, a5, a6, a7]))) := if_pos ⟨rfl, Nat.le_of_ble_eq_true rfl, h⟩
theorem pt_8_5_1 (m : Mem) (j s : Nat) (a0 a1 a2 a3 a4 a5 a6 a7 x0 : Value) (h : oneAll [x0] = true) : putIn 1 m j 5 [x0] (some (.cells false s [a0, a1, a2, a3, a4, a5, a6, a7])) = some (m.set j (some (.cells false s [a0, a1, a2, a3, a4, x0, a6, a7]))) := if_pos ⟨rfl, Nat.le_of_ble_eq_true rfl, h⟩
theorem pt_8_6_1 (m : Mem) (j s : Nat) (a0 a1 a2 a3 a4 a5 a6 a7 x0 : Value) (h : oneAll [x0] = true) : putIn 1 m j 6 [x0] (some (.cells false s [a0, a1, a2, a3, a4, a5, a6, a7])) = some (m.set j (some (.cells false s [a0, a1, a2, a3, a4, a5, x0, a7]))) := if_pos ⟨rfl, Nat.le_of_ble_eq_true rfl, h⟩
theorem pt_8_7_1 (m : Mem) (j s : Nat) (a0 a1 a2 a3 a4 a5 a6 a7 x0 : Value) (h : oneAll [x0] = true) : putIn 1 m j 7 [x0] (some (.cells false s [a0, a1, a2, a3, a4, a5, a6, a7])) = some (m.set j (some (.cells false s [a0, a1, a2, a3, a4, a5, a6, x0]))) := if_pos ⟨rfl, Nat.le_of_ble_eq_true rfl, h⟩
theorem rw_13_0_13 (r : Bool) (s : Nat) (a0 a1 a2 a3 a4 a5 a6 a7 a8 a9 a10 a11 a12 : Value) : rowIn 13 0 (some (.cells r s [a0, a1, a2, a3, a4, a5, a6, a7, a8, a9, a10, a11, a12])) = some (.agg #[a0, a1, a2, a3, a4, a5, a6, a7, a8, a9, a10, a11, a12]) := rfl
theorem rw_13_0_8 (r : Bool) (s : Nat) (a0 a1 a2 a3 a4 a5 a6 a7 a8 a9 a10 a11 a12 : Value) : rowIn 8 0 (some (.cells r s [a0, a1, a2, a3, a4, a5, a6, a7, a8, a9, a10, a11, a12])) = some (.agg #[a0, a1, a2, a3, a4, a5, a6, a7]) := rfl
theorem rw_13_8_5 (r : Bool) (s : Nat) (a0 a1 a2 a3 a4 a5 a6 a7 a8 a9 a10 a11 a12 : Value) : rowIn 5 8 (some (.cells r s [a0, a1, a2, a3, a4, a5, a6, a7, a8, a9, a10, a11, a12])) = some (.agg #[a8, a9, a10, a11, a12]) := rfl
theorem pt_13_0_13 (m : Mem) (j s : Nat) (a0 a1 a2 a3 a4 a5 a6 a7 a8 a9 a10 a11 a12 x0 x1 x2 x3 x4 x5 x6 x7 x8 x9 x10 x11 x12 : Value) (h : oneAll [x0, x1, x2, x3, x4, x5, x6, x7, x8, x9, x10, x11, x12] = true) : putIn 13 m j 0 [x0, x1, x2, x3, x4, x5, x6, x7, x8, x9, x10, x11, x12] (some (.cells false s [a0, a1, a2, a3, a4, a5, a6, a7, a8, a9, a10, a11, a12])) = some (m.set j (some (.cells false s [x0, x1, x2, x3, x4, x5, x6, x7, x8, x9, x10, x11, x12]))) := if_pos ⟨rfl, Nat.le_of_ble_eq_true rfl, h⟩
theorem pt_13_0_8 (m : Mem) (j s : Nat) (a0 a1 a2 a3 a4 a5 a6 a7 a8 a9 a10 a11 a12 x0 x1 x2 x3 x4 x5 x6 x7 : Value) (h : oneAll [x0, x1, x2, x3, x4, x5, x6, x7] = true) : putIn 8 m j 0 [x0, x1, x2, x3, x4, x5, x6, x7] (some (.cells false s [a0, a1, a2, a3, a4, a5, a6, a7, a8, a9, a10, a11, a12])) = some (m.set j (some (.cells false s [x0, x1, x2, x3, x4, x5, x6, x7, a8, a9, a10, a11, a12]))) := if_pos ⟨rfl, Nat.le_of_ble_eq_true rfl, h⟩
theorem pt_13_8_5 (m : Mem) (j s : Nat) (a0 a1 a2 a3 a4 a5 a6 a7 a8 a9 a10 a11 a12 x0 x1 x2 x3 x4 : Value) (h : oneAll [x0, x1, x2, x3, x4] = true) : putIn 5 m j 8 [x0, x1, x2, x3, x4] (some (.cells false s [a0, a1, a2, a3, a4, a5, a6, a7, a8, a9, a10, a11, a12])) = some (m.set j (some (.cells false s [a0, a1, a2, a3, a4, a5, a6, a7, x0, x1, x2, x3, x4]))) := if_pos ⟨rfl, Nat.le_of_ble_eq_true rfl, h⟩
theorem rw_16_0_16 (r : Bool) (s : Nat) (a0 a1 a2 a3 a4 a5 a6 a7 a8 a9 a10 a11 a12 a13 a14 a15 : Value) : rowIn 16 0 (some (.cells r s [a0, a1, a2, a3, a4, a5, a6, a7, a8, a9, a10, a11, a12, a13, a14, a15])) = some (.agg #[a0, a1, a2, a3, a4, a5, a6, a7, a8, a9, a10, a11, a12, a13, a14, a15]) := rfl
theorem pt_16_0_16 (m : Mem) (j s : Nat) (a0 a1 a2 a3 a4 a5 a6 a7 a8 a9 a10 a11 a12 a13 a14 a15 x0 x1 x2 x3 x4 x5 x6 x7 x8 x9 x10 x11 x12 x13 x14 x15 : Value) (h : oneAll [x0, x1, x2, x3, x4, x5, x6, x7, x8, x9, x10, x11, x12, x13, x14, x15] = true) : putIn 16 m j 0 [x0, x1, x2, x3, x4, x5, x6, x7, x8, x9, x10, x11, x12, x13, x14, x15] (some (.cells false s [a0, a1, a2, a3, a4, a5, a6, a7, a8, a9, a10, a11, a12, a13, a14, a15])) = some (m.set j (some (.cells false s [x0, x1, x2, x3, x4, x5, x6, x7, x8, x9, x10, x11, x12, x13, x14, x15]))) := if_pos ⟨rfl, Nat.le_of_ble_eq_true rfl, h⟩
theorem pt_16_2_1 (m : Mem) (j s : Nat) (a0 a1 a2 a3 a4 a5 a6 a7 a8 a9 a10 a11 a12 a13 a14 a15 x0 : Value) (h : oneAll [x0] = true) : putIn 1 m j 2 [x0] (some (.cells false s [a0, a1, a2, a3, a4, a5, a6, a7, a8, a9, a10, a11, a12, a13, a14, a15])) = some (m.set j (some (.cells false s [a0, a1, x0, a3, a4, a5, a6, a7, a8, a9, a10, a11, a12, a13, a14, a15]))) := if_pos ⟨rfl, Nat.le_of_ble_eq_true rfl, h⟩
def zDk := And.intro (And.intro (And.intro (And.intro (And.intro (And.intro (And.intro (@inf_Dsk) (And.intro (@sz_Dsk) (@ld_Dsk))) (And.intro (And.intro (@st_Dsk) (@al_Dsk)) (And.intro (@fa_Dsk0) (@fa_Dsk1)))) (And.intro (And.intro (And.intro (@fa_Dsk2) (@fa_Dsk3)) (And.intro (@inf_Scn) (@sz_Scn))) (And.intro (And.intro (@ld_Scn) (@st_Scn)) (And.intro (@al_Scn) (@fa_Scn0))))) (And.intro (And.intro (And.intro (@fa_Scn1) (And.intro (@fa_Scn2) (@fa_Scn3))) (And.intro (And.intro (@fa_Scn4) (@inf_Sec)) (And.intro (@sz_Sec) (@ld_Sec)))) (And.intro (And.intro (And.intro (@st_Sec) (@al_Sec)) (And.intro (@fa_Sec0) (@fa_Sec1))) (And.intro (And.intro (@fa_Sec2) (@inf_Flt)) (And.intro (@sz_Flt) (@ld_Flt)))))) (And.intro (And.intro (And.intro (And.intro (@st_Flt) (And.intro (@al_Flt) (@fa_Flt0))) (And.intro (And.intro (@fa_Flt1) (@inf_Hdr)) (And.intro (@sz_Hdr) (@ld_Hdr)))) (And.intro (And.intro (And.intro (@st_Hdr) (@al_Hdr)) (And.intro (@fa_Hdr0) (@fa_Hdr1))) (And.intro (And.intro (@fa_Hdr2) (@fa_Hdr3)) (And.intro (@fa_Hdr4) (@fa_Hdr5))))) (And.intro (And.intro (And.intro (@fa_Hdr6) (And.intro (@inf_Ext) (@sz_Ext))) (And.intro (And.intro (@ld_Ext) (@st_Ext)) (And.intro (@al_Ext) (@fa_Ext0)))) (And.intro (And.intro (And.intro (@fa_Ext1) (@inf_Keys)) (And.intro (@sz_Keys) (@ld_Keys))) (And.intro (And.intro (@st_Keys) (@al_Keys)) (And.intro (@fa_Keys0) (@fa_Keys1))))))) (And.intro (And.intro (And.intro (And.intro (And.intro (@fa_Keys2) (And.intro (@inf_Dep) (@sz_Dep))) (And.intro (And.intro (@ld_Dep) (@st_Dep)) (And.intro (@al_Dep) (@fa_Dep0)))) (And.intro (And.intro (And.intro (@fa_Dep1) (@fa_Dep2)) (And.intro (@fa_Dep3) (@fa_Dep4))) (And.intro (And.intro (@fa_Dep5) (@inf_Set)) (And.intro (@sz_Set) (@ld_Set))))) (And.intro (And.intro (And.intro (@st_Set) (And.intro (@al_Set) (@fa_Set0))) (And.intro (And.intro (@fa_Set1) (@inf_Rec)) (And.intro (@sz_Rec) (@ld_Rec)))) (And.intro (And.intro (And.intro (@st_Rec) (@al_Rec)) (And.intro (@fa_Rec0) (@fa_Rec1))) (And.intro (And.intro (@inf_A8) (@sz_A8)) (And.intro (@ld_A8) (@st_A8)))))) (And.intro (And.intro (And.intro (And.intro (@al_A8) (And.intro (@inf_A4) (@sz_A4))) (And.intro (And.intro (@ld_A4) (@st_A4)) (And.intro (@al_A4) (@inf_Str)))) (And.intro (And.intro (And.intro (@sz_Str) (@ld_Str)) (And.intro (@st_Str) (@al_Str))) (And.intro (And.intro (@inf_Int) (@sz_Int)) (And.intro (@ld_Int) (@st_Int))))) (And.intro (And.intro (And.intro (@al_Int) (And.intro (@inf_Bool) (@sz_Bool))) (And.intro (And.intro (@ld_Bool) (@st_Bool)) (And.intro (@al_Bool) (@inf_SS)))) (And.intro (And.intro (And.intro (@sz_SS) (@ld_SS)) (And.intro (@st_SS) (@al_SS))) (And.intro (And.intro (@inf_Err) (@sz_Err)) (And.intro (@ld_Err) (@st_Err)))))))) (And.intro (And.intro (And.intro (And.intro (And.intro (And.intro (@al_Err) (And.intro (@inf_Map) (@sz_Map))) (And.intro (And.intro (@ld_Map) (@st_Map)) (And.intro (@al_Map) (@inf_PD)))) (And.intro (And.intro (And.intro (@sz_PD) (@ld_PD)) (And.intro (@st_PD) (@al_PD))) (And.intro (And.intro (@inf_Secs) (@sz_Secs)) (And.intro (@ld_Secs) (@st_Secs))))) (And.intro (And.intro (And.intro (@al_Secs) (And.intro (@inf_Flts) (@sz_Flts))) (And.intro (And.intro (@ld_Flts) (@st_Flts)) (And.intro (@al_Flts) (@inf_Exts)))) (And.intro (And.intro (And.intro (@sz_Exts) (@ld_Exts)) (And.intro (@st_Exts) (@al_Exts))) (And.intro (And.intro (Tryz.underlying9) (Tryz.underlying3)) (And.intro (Tryz.underlying4) (Tryz.underlying5)))))) (And.intro (And.intro (And.intro (And.intro (Tryz.underlying80) (And.intro (Tryz.underlying121) (Tryz.underlying58))) (And.intro (And.intro (Tryz.underlying33) (Tryz.underlying61)) (And.intro (Tryz.underlying49) (Tryz.underlying32)))) (And.intro (And.intro (And.intro (Tryz.underlying23) (Tryz.underlying36)) (And.intro (Tryz.underlying69) (Tryz.underlying63))) (And.intro (And.intro (Tryz.underlying71) (Tryz.underlying27)) (And.intro (Tryz.underlying176) (Tryz.underlying73))))) (And.intro (And.intro (And.intro (Tryz.underlying75) (And.intro (Tryz.underlying67) (Tryz.underlying112))) (And.intro (And.intro (Tryz.underlying83) (Tryz.underlying85)) (And.intro (Tryz.underlying110) (Tryz.underlying108)))) (And.intro (And.intro (And.intro (@cl_int) (@oc_int)) (And.intro (@cl_string) (@oc_string))) (And.intro (And.intro (@cl_bool) (@oc_bool)) (And.intro (@cl_sl) (@oc_sl))))))) (And.intro (And.intro (And.intro (And.intro (And.intro (@cl_pt) (And.intro (@oc_pt) (@cl_mp))) (And.intro (And.intro (@oc_mp) (@oa_cons)) (And.intro (@oa_nil) (@g_nt)))) (And.intro (And.intro (And.intro (@g_nf) (@undef_eq)) (And.intro (@ta_v) (@Bool.and_self))) (And.intro (And.intro (@Bool.true_and) (@agg_cells)) (And.intro (@setL.eq_1) (@setL.eq_2))))) (And.intro (And.intro (And.intro (@rw_1_0_1) (And.intro (@pt_1_0_1) (@rw_2_0_2))) (And.intro (And.intro (@pt_2_0_2) (@pt_2_0_1)) (And.intro (@pt_2_1_1) (@rw_3_0_3)))) (And.intro (And.intro (And.intro (@pt_3_0_3) (@pt_3_0_1)) (And.intro (@pt_3_1_1) (@pt_3_2_1))) (And.intro (And.intro (@rw_4_0_4) (@pt_4_0_4)) (And.intro (@pt_4_0_1) (@pt_4_1_1)))))) (And.intro (And.intro (And.intro (And.intro (@pt_4_2_1) (And.intro (@pt_4_3_1) (@rw_5_0_5))) (And.intro (And.intro (@pt_5_0_5) (@pt_5_0_1)) (And.intro (@pt_5_1_1) (@pt_5_2_1)))) (And.intro (And.intro (And.intro (@pt_5_3_1) (@pt_5_4_1)) (And.intro (@rw_8_0_8) (@rw_8_0_7))) (And.intro (And.intro (@pt_8_0_8) (@pt_8_0_7)) (And.intro (@pt_8_0_1) (@pt_8_1_1))))) (And.intro (And.intro (And.intro (@pt_8_2_1) (And.intro (@pt_8_3_1) (@pt_8_4_1))) (And.intro (And.intro (@pt_8_5_1) (@pt_8_6_1)) (And.intro (@pt_8_7_1) (@rw_13_0_13)))) (And.intro (And.intro (And.intro (@rw_13_0_8) (@rw_13_8_5)) (And.intro (@pt_13_0_13) (@pt_13_0_8))) (And.intro (And.intro (@pt_13_8_5) (@rw_16_0_16)) (And.intro (@pt_16_0_16) (@pt_16_2_1))))))))
end Go.Proofs.YtmnebimijlnlkaaGreatDoor
namespace Go.Proofs.YtmnebimijlnlkaaGreatDoor
open Go.RowKit Abs
abbrev LastL := List (Nat × List UInt8 × Nat)
structure Dsk where
  old : List (List UInt8)
  last : LastL
  clock : Nat
  fuse : Int
  dead : Bool
def lastOf (L : LastL) (i : Nat) : Option (List UInt8) := (L.find? fun x => x.1 == i).map (·.2.1)
def ents (L : LastL) : List MapEntry := L.map fun x => ⟨.int .i64 (x.1 : Nat), .string (str x.2.1), x.2.2⟩
def putL (L : LastL) (i : Nat) (s : List UInt8) (c : Nat) : LastL := match lastOf L i with
  | some _ => L.map fun x => if x.1 = i then (i, s, x.2.2) else x
  | none => L ++ [(i, s, c)]
def putC (L : LastL) (i c : Nat) : Nat := match lastOf L i with | some _ => c | none => c + 1
structure Dsk.Ok (d : Dsk) : Prop where
  n : d.old.length ≤ 1024
  pos : 0 < d.old.length
  size : ∀ s ∈ d.old, s.length = 256
  keys : (d.last.map (·.1)).Nodup
  born : (d.last.map (·.2.2)).Nodup
  clock : ∀ x ∈ d.last, x.2.2 < d.clock
  within : ∀ x ∈ d.last, x.1 < d.old.length ∧ x.2.1.length = 256
  fuse : -1 ≤ d.fuse ∧ d.fuse ≤ 9223372036854775807
  old_big : True
def Dsk.may (d : Dsk) (i : Int) : Int := if d.dead = true then 7 else if i < 0 ∨ (d.old.length : Int) ≤ i then 10 else 0
def Dsk.sector (d : Dsk) (i : Nat) : List UInt8 := (lastOf d.last i).getD ((d.old[i]?).getD [])
def Dsk.read (d : Dsk) (i : Int) : List UInt8 × Int := if d.may i = 0 then (d.sector i.toNat, 0) else ([], d.may i)
def Dsk.burnt (d : Dsk) : Dsk := if d.fuse = 0 then { d with dead := true } else { d with fuse := max (d.fuse - 1) (-1) }
def filled (s : List UInt8) : List UInt8 := s ++ List.replicate (256 - s.length) 0
def Dsk.put (d : Dsk) (i : Nat) (s : List UInt8) : Dsk := { d with last := putL d.last i s d.clock, clock := putC d.last i d.clock }
def Dsk.write (d : Dsk) (i : Int) (s : List UInt8) : Dsk × Int :=
  if d.may i ≠ 0 then (d, d.may i) else if 256 < s.length then (d, 1) else if d.fuse = 0 then (d.burnt, 7) else (d.burnt.put i.toNat (filled s), 0)
def syncV (old : List (List UInt8)) (L : LastL) (seen : List Nat) : List (List UInt8) :=
  old.mapIdx fun i o => match L.find? fun x => x.1 == i && seen.contains x.2.2 with | some x => x.2.1 | none => o
def Dsk.synced (d : Dsk) : Dsk := { d with old := d.old.mapIdx fun i o => (lastOf d.last i).getD o, last := [] }
def Dsk.sync (d : Dsk) : Dsk × Int := if d.may 0 ≠ 0 then (d, d.may 0) else if d.fuse = 0 then (d.burnt, 7) else (d.burnt.synced, 0)
theorem find_congr {α : Type} {p q : α → Bool} : ∀ {l : List α}, (∀ x ∈ l, p x = q x) → l.find? p = l.find? q
  | [], _ => rfl
  | a :: l, h => by
    simp only [List.find?_cons, h a List.mem_cons_self, find_congr fun x hx => h x (List.mem_cons_of_mem _ hx)]
theorem lastOf_none {L : LastL} {i : Nat} (h : lastOf L i = none) : ∀ x ∈ L, x.1 ≠ i := by
  unfold lastOf at h
  rw [Option.map_eq_none_iff, List.find?_eq_none] at h
  exact fun x hx e => h x hx (by simpa using e)
theorem lastOf_some {L : LastL} {i : Nat} {s : List UInt8} (h : lastOf L i = some s) : ∃ b, (i, s, b) ∈ L := by
  unfold lastOf at h
  rw [Option.map_eq_some_iff] at h
  obtain ⟨x, hx, rfl⟩ := h
  have h1 := List.mem_of_find?_eq_some hx
  have h2 := List.find?_some hx
  simp only [beq_iff_eq] at h2
  exact ⟨x.2.2, by rw [← h2]; exact h1⟩
theorem nodup_fst {L : LastL} (h : (L.map (·.1)).Nodup) {x y : Nat × List UInt8 × Nat} (hx : x ∈ L) (hy : y ∈ L) (e : x.1 = y.1) : x = y := by
  induction L with
  | nil => cases hx
  | cons a L ih =>
    rw [List.map_cons, List.nodup_cons] at h
    rcases List.mem_cons.1 hx with rfl | hx' <;> rcases List.mem_cons.1 hy with rfl | hy'
    · rfl
    · exact absurd (List.mem_map.2 ⟨y, hy', e.symm⟩) h.1
    · exact absurd (List.mem_map.2 ⟨x, hx', e⟩) h.1
    · exact ih h.2 hx' hy'
theorem ents_findNow (i : Nat) : ∀ (L : LastL) (k : Nat), (lastOf L i = none ∧ Instr.findNow (.int .i64) (.int .i64 (i : Nat)) (ents L) k = some none) ∨
    ∃ j x, lastOf L i = some x.2.1 ∧ x.1 = i ∧ L[j]? = some x ∧ Instr.findNow (.int .i64) (.int .i64 (i : Nat)) (ents L) k = some (some (k + j, .string (str x.2.1)))
  | [], k => .inl ⟨rfl, rfl⟩
  | y :: L, k => by
    by_cases e : y.1 = i
    · right
      refine ⟨0, y, ?_, e, rfl, ?_⟩
      · unfold lastOf; rw [List.find?_cons_of_pos (by simpa using e)]; rfl
      · simp [ents, Instr.findNow, Instr.sameNow, e]
    · have h1 : lastOf (y :: L) i = lastOf L i := by unfold lastOf; rw [List.find?_cons_of_neg (by simpa using e)]
      have h2 : Instr.findNow (.int .i64) (.int .i64 (i : Nat)) (ents (y :: L)) k = Instr.findNow (.int .i64) (.int .i64 (i : Nat)) (ents L) (k + 1) := by
        have e' : ((i : Int) == (y.1 : Int)) = false := by simp; omega
        simp only [ents, List.map_cons, Instr.findNow, Instr.sameNow, if_true, e']
      rw [h1, h2]
      rcases ents_findNow i L (k + 1) with h | ⟨j, x, h3, h4, h5, h6⟩
      · exact .inl h
      · exact .inr ⟨j + 1, x, h3, h4, by simpa using h5, by rw [h6]; congr 3; omega⟩
theorem kt_map : Tryz.prog.underlying 61 = some (.map 3 9) := Tryz.underlying61
theorem look_dsk {get : Nat → Option Blk} {q : Nat} {r : Bool} {L : LastL} {c : Nat} (h : get q = some (.kv r (ents L) c)) (i : Nat) :
    aLookup Tryz.prog get 61 (.map (some q)) (.int .i64 (i : Nat)) true = some (.tuple #[.string (str ((lastOf L i).getD [])), .bool (lastOf L i).isSome]) := by
  have hi : Tryz.prog.underlying 3 = some (.int .i64) := Tryz.underlying3
  have hs : Tryz.prog.info? 9 = some Tryz.t9 := inf_Str
  have hz : Tryz.t9.zero = some (.string ⟨#[]⟩) := rfl
  unfold aLookup aFind aKV
  rw [kt_map]
  simp only [hs, hz, flat, if_true, h, hi, aKey, decide_true]
  rcases ents_findNow i L 0 with ⟨h1, h2⟩ | ⟨j, x, h1, _, _, h2⟩
  · rw [h1, h2]; rfl
  · rw [h1, h2]; rfl
theorem upd_dsk {m : Mem} {q : Nat} {L : LastL} {c : Nat} (h : m.get q = some (.kv false (ents L) c)) (hk : (L.map (·.1)).Nodup) (i : Nat) (s : List UInt8) :
    aMapUpdate Tryz.prog m 61 (.map (some q)) (.int .i64 (i : Nat)) (.string (str s)) = some (m.set q (some (.kv false (ents (putL L i s c)) (putC L i c)))) := by
  have hi : Tryz.prog.underlying 3 = some (.int .i64) := Tryz.underlying3
  unfold aMapUpdate aFind
  rw [kt_map]
  simp only [h, flat, if_true, hi, aKey, decide_true]
  rcases ents_findNow i L 0 with ⟨h1, h2⟩ | ⟨j, x, h1, hx, hj, h2⟩
  · rw [h2]
    simp only [putL, putC, h1]
    simp [ents]
  · rw [h2]
    simp only [putL, putC, h1, Nat.zero_add]
    refine congrArg (fun l => some (m.set q (some (Blk.kv false l c)))) ?_
    apply List.ext_getElem?
    intro k
    unfold ents
    rw [List.getElem?_modify]
    simp only [List.getElem?_map]
    cases hg : L[k]? with
    | none => simp
    | some y =>
      by_cases e : j = k
      · subst e
        rw [hj] at hg; cases hg
        simp [hx]
      · have : y.1 ≠ i := fun e2 => by
          obtain ⟨hxl, hxe⟩ := List.getElem?_eq_some_iff.1 hj
          obtain ⟨hyl, hye⟩ := List.getElem?_eq_some_iff.1 hg
          have hp := List.pairwise_iff_getElem.1 hk
          rcases Nat.lt_trichotomy j k with hlt | he | hgt
          · exact hp j k (by simpa using hxl) (by simpa using hyl) hlt (by simp [hxe, hye, hx, e2])
          · exact e he
          · exact hp k j (by simpa using hyl) (by simpa using hxl) hgt (by simp [hxe, hye, hx, e2])
        simp [e, this]
theorem clear_dsk {m : Mem} {q : Nat} {es : List MapEntry} {c : Nat} (h : m.get q = some (.kv false es c)) : aClear Tryz.prog m 61 (.map (some q)) = some (m.set q (some (.kv false (ents []) c))) := by
  unfold aClear
  rw [kt_map]
  simp only [h]
  rfl
theorem range_dsk {m : Mem} {q : Nat} {r : Bool} {es : List MapEntry} {c : Nat} (h : m.get q = some (.kv r es c)) : aRange Tryz.prog m 61 (.map (some q)) = some (.pointer (some ⟨m.size, 0, none⟩), m.push (.it false q c [] c)) := by
  unfold aRange
  rw [kt_map]
  simp only [h]
theorem putL_map (L : LastL) (i : Nat) (s : List UInt8) (c : Nat) : ((putL L i s c).map (·.1) = L.map (·.1) ∧ (putL L i s c).map (·.2.2) = L.map (·.2.2) ∧ putC L i c = c) ∨ (lastOf L i = none ∧ putL L i s c = L ++ [(i, s, c)] ∧ putC L i c = c + 1) := by
  unfold putL putC
  cases h : lastOf L i with
  | none => exact .inr ⟨rfl, rfl, rfl⟩
  | some t =>
    left
    refine ⟨?_, ?_, rfl⟩ <;> simp only [List.map_map] <;> apply List.map_congr_left <;> intro x _ <;> simp only [Function.comp] <;> split <;> simp_all
theorem putL_mem {L : LastL} {i : Nat} {s : List UInt8} {c : Nat} {x : Nat × List UInt8 × Nat} (h : x ∈ putL L i s c) : x ∈ L ∨ (x.1 = i ∧ x.2.1 = s ∧ ((x.2.2 = c ∧ lastOf L i = none) ∨ ∃ t, (i, t, x.2.2) ∈ L)) := by
  unfold putL at h
  split at h
  · rw [List.mem_map] at h
    obtain ⟨y, hy, rfl⟩ := h
    split
    · rename_i e
      exact .inr ⟨rfl, rfl, .inr ⟨y.2.1, by rw [← e]; exact hy⟩⟩
    · exact .inl hy
  · rename_i hn
    rw [List.mem_append, List.mem_singleton] at h
    rcases h with h | rfl
    · exact .inl h
    · exact .inr ⟨rfl, rfl, .inl ⟨rfl, hn⟩⟩
theorem Dsk.Ok.burnt {d : Dsk} (h : d.Ok) : d.burnt.Ok := by
  unfold Dsk.burnt
  split
  · exact ⟨h.n, h.pos, h.size, h.keys, h.born, h.clock, h.within, h.fuse, trivial⟩
  · have hf := h.fuse
    exact ⟨h.n, h.pos, h.size, h.keys, h.born, h.clock, h.within, by simp only; omega, trivial⟩
theorem burnt_old (d : Dsk) : d.burnt.old = d.old := by unfold Dsk.burnt; split <;> rfl
theorem burnt_last (d : Dsk) : d.burnt.last = d.last := by unfold Dsk.burnt; split <;> rfl
theorem burnt_clock (d : Dsk) : d.burnt.clock = d.clock := by unfold Dsk.burnt; split <;> rfl
theorem Dsk.Ok.put {d : Dsk} (h : d.Ok) {i : Nat} (hi : i < d.old.length) {s : List UInt8} (hs : s.length = 256) : (d.put i s).Ok := by
  unfold Dsk.put
  refine ⟨h.n, h.pos, h.size, ?_, ?_, fun x hx => ?_, fun x hx => ?_, h.fuse, trivial⟩
  · rcases putL_map d.last i s d.clock with ⟨h1, _, _⟩ | ⟨h1, h2, _⟩
    · simp only [h1]; exact h.keys
    · simp only [h2, List.map_append, List.map_cons, List.map_nil]
      rw [List.nodup_append]
      refine ⟨h.keys, by simp, fun a ha b hb => ?_⟩
      rw [List.mem_singleton] at hb
      obtain ⟨x, hx, rfl⟩ := List.mem_map.1 ha
      subst hb
      exact lastOf_none h1 x hx
  · rcases putL_map d.last i s d.clock with ⟨_, h1, _⟩ | ⟨h1, h2, _⟩
    · simp only [h1]; exact h.born
    · simp only [h2, List.map_append, List.map_cons, List.map_nil]
      rw [List.nodup_append]
      refine ⟨h.born, by simp, fun a ha b hb => ?_⟩
      rw [List.mem_singleton] at hb
      obtain ⟨x, hx, rfl⟩ := List.mem_map.1 ha
      subst hb
      have := h.clock x hx
      omega
  · simp only at hx ⊢
    rcases putL_map d.last i s d.clock with ⟨_, _, h1⟩ | ⟨h1, _, h2⟩
    · rw [h1]
      rcases putL_mem hx with hx | ⟨_, _, ⟨h3, h4⟩ | ⟨t, ht⟩⟩
      · exact h.clock x hx
      · unfold putC at h1; rw [h4] at h1; simp at h1
      · exact h.clock (i, t, x.2.2) ht
    · rw [h2]
      rcases putL_mem hx with hx | ⟨_, _, ⟨h3, h4⟩ | ⟨t, ht⟩⟩
      · have := h.clock x hx; omega
      · omega
      · have := h.clock (i, t, x.2.2) ht; simp only at this; omega
  · simp only at hx ⊢
    rcases putL_mem hx with hx | ⟨h1, h2, _⟩
    · exact h.within x hx
    · rw [h1, h2]; exact ⟨hi, hs⟩
theorem Dsk.Ok.sector {d : Dsk} (h : d.Ok) {i : Nat} (hi : i < d.old.length) : (d.sector i).length = 256 := by
  unfold Dsk.sector
  cases hl : lastOf d.last i with
  | some s =>
    obtain ⟨b, hb⟩ := lastOf_some hl
    exact (h.within _ hb).2
  | none =>
    rw [List.getElem?_eq_getElem hi]
    exact h.size _ (List.getElem_mem hi)
theorem filled_len {s : List UInt8} (h : s.length ≤ 256) : (filled s).length = 256 := by unfold filled; simp; omega
theorem Dsk.Ok.synced {d : Dsk} (h : d.Ok) : d.synced.Ok := by
  unfold Dsk.synced
  refine ⟨by simpa using h.n, by simpa using h.pos, fun s hs => ?_, by simp, by simp, fun x hx => by simp at hx, fun x hx => by simp at hx, h.fuse, trivial⟩
  simp only at hs
  rw [List.mem_mapIdx] at hs
  obtain ⟨i, hi, rfl⟩ := hs
  have := h.sector hi
  unfold Dsk.sector at this
  rw [List.getElem?_eq_getElem hi] at this
  exact this
theorem syncV_nil (old : List (List UInt8)) (L : LastL) : syncV old L [] = old := by
  unfold syncV
  have : ∀ i : Nat, L.find? (fun x => x.1 == i && ([] : List Nat).contains x.2.2) = none := fun i => by rw [List.find?_eq_none]; simp
  simp only [this]
  apply List.ext_getElem?
  intro i
  simp
theorem syncV_len (old : List (List UInt8)) (L : LastL) (seen : List Nat) : (syncV old L seen).length = old.length := by unfold syncV; simp
theorem syncV_step {old : List (List UInt8)} {L : LastL} {seen : List Nat} (hk : (L.map (·.1)).Nodup) {x : Nat × List UInt8 × Nat} (hx : x ∈ L) : (syncV old L seen).set x.1 x.2.1 = syncV old L (seen ++ [x.2.2]) ∨ ∃ y ∈ L, y ≠ x ∧ y.2.2 = x.2.2 := by
  by_cases hd : ∃ y ∈ L, y ≠ x ∧ y.2.2 = x.2.2
  · exact .inr hd
  · left
    apply List.ext_getElem?
    intro i
    rw [List.getElem?_set]
    unfold syncV
    simp only [List.length_mapIdx, List.getElem?_mapIdx]
    cases ho : old[i]? with
    | none =>
      have : ¬ i < old.length := by have := List.getElem?_eq_none_iff.1 ho; omega
      by_cases e : x.1 = i
      · simp [e, this]
      · simp [e]
    | some o =>
      have hlt : i < old.length := (List.getElem?_eq_some_iff.1 ho).1
      by_cases e : x.1 = i
      · have hf : L.find? (fun y => y.1 == i && (seen ++ [x.2.2]).contains y.2.2) = some x := by
          have hex : L.find? (fun y => y.1 == i && (seen ++ [x.2.2]).contains y.2.2) ≠ none := by
            rw [Ne, List.find?_eq_none]
            intro h
            exact h x hx (by simp [e])
          obtain ⟨y, hy⟩ := Option.ne_none_iff_exists'.1 hex
          have h1 := List.mem_of_find?_eq_some hy
          have h2 := List.find?_some hy
          simp only [Bool.and_eq_true, beq_iff_eq] at h2
          rw [hy, nodup_fst hk h1 hx (by rw [h2.1, e])]
        rw [if_pos e, if_pos (by rw [e]; exact hlt), Option.map_some, hf]
      · simp only [e, if_false, Option.map_some]
        congr 1
        have : L.find? (fun y => y.1 == i && seen.contains y.2.2) = L.find? (fun y => y.1 == i && (seen ++ [x.2.2]).contains y.2.2) := by
          apply find_congr
          intro y hy
          by_cases e2 : y.1 = i
          · have : y.2.2 ≠ x.2.2 := fun h => hd ⟨y, hy, fun h' => e (by rw [← h']; exact e2), h⟩
            simp [this]
          · have : (y.1 == i) = false := by simpa using e2
            rw [this]; rfl
        rw [this]
theorem syncV_all {old : List (List UInt8)} {L : LastL} {seen : List Nat} (h : aLeft (ents L) seen = []) : syncV old L seen = old.mapIdx fun i o => (lastOf L i).getD o := by
  have hall : ∀ x ∈ L, seen.contains x.2.2 = true := fun x hx => by
    unfold aLeft at h
    rw [List.filter_eq_nil_iff] at h
    have := h ⟨.int .i64 (x.1 : Nat), .string (str x.2.1), x.2.2⟩ (List.mem_map.2 ⟨x, hx, rfl⟩)
    simpa using this
  unfold syncV
  apply List.ext_getElem?
  intro i
  simp only [List.getElem?_mapIdx]
  cases ho : old[i]? with
  | none => rfl
  | some o =>
    simp only [Option.map_some]
    congr 1
    have : L.find? (fun y => y.1 == i && seen.contains y.2.2) = L.find? (fun y => y.1 == i) := by
      apply find_congr
      intro y hy
      rw [hall y hy, Bool.and_true]
    rw [this]
    unfold lastOf
    cases L.find? (fun y => y.1 == i) <;> rfl
theorem aLeft_mem {L : LastL} {seen : List Nat} {e : MapEntry} (h : e ∈ aLeft (ents L) seen) : ∃ x ∈ L, e = ⟨.int .i64 (x.1 : Nat), .string (str x.2.1), x.2.2⟩ ∧ seen.contains x.2.2 = false := by
  unfold aLeft at h
  rw [List.mem_filter] at h
  obtain ⟨h1, h2⟩ := h
  obtain ⟨x, hx, rfl⟩ := List.mem_map.1 h1
  exact ⟨x, hx, rfl, by simpa using h2⟩
theorem aLeft_less {L : LastL} {seen : List Nat} {e : MapEntry} (h : e ∈ aLeft (ents L) seen) : (aLeft (ents L) (seen ++ [e.born])).length < (aLeft (ents L) seen).length := by
  have : aLeft (ents L) (seen ++ [e.born]) = (aLeft (ents L) seen).filter fun x => !(x.born == e.born) := by
    unfold aLeft
    rw [List.filter_filter]
    apply List.filter_congr
    intro x _
    cases h1 : seen.contains x.born <;> cases h2 : (x.born == e.born) <;> simp_all
  rw [this]
  exact List.length_filter_lt_length_iff_exists.2 ⟨e, h, by simp⟩
theorem ents_find {L : LastL} (hb : (L.map (·.2.2)).Nodup) {x : Nat × List UInt8 × Nat} (hx : x ∈ L) : (ents L).find? (fun e => e.born == x.2.2) = some ⟨.int .i64 (x.1 : Nat), .string (str x.2.1), x.2.2⟩ := by
  induction L with
  | nil => cases hx
  | cons a L ih =>
    rw [List.map_cons, List.nodup_cons] at hb
    unfold ents
    rw [List.map_cons]
    rcases List.mem_cons.1 hx with rfl | hx'
    · rw [List.find?_cons_of_pos (by simp)]
    · have : a.2.2 ≠ x.2.2 := fun e => hb.1 (List.mem_map.2 ⟨x, hx', e.symm⟩)
      rw [List.find?_cons_of_neg (by simpa using this)]
      exact ih hb.2 hx'
end Go.Proofs.YtmnebimijlnlkaaGreatDoor
namespace Go.Proofs.YtmnebimijlnlkaaGreatDoor
open Go.RowKit Abs
def Keeps (k : Nat) (M M' : Mem) : Prop := (∀ b x, b < k → M.get b = some x → M'.get b = some x) ∧ ∀ b s cs, M.get b = some (.cells true s cs) → M'.get b = some (.cells true s cs)
theorem Keeps.refl (k : Nat) (M : Mem) : Keeps k M M := ⟨fun _ _ _ h => h, fun _ _ _ h => h⟩
theorem Keeps.trans {k : Nat} {A B C : Mem} (h : Keeps k A B) (g : Keeps k B C) : Keeps k A C := ⟨fun b x hb hx => g.1 b x hb (h.1 b x hb hx), fun b s cs hb => g.2 b s cs (h.2 b s cs hb)⟩
theorem get_live {M : Mem} {b : Nat} {x : Blk} (h : M.get b = some x) : b < M.size := Mem.get_lt h
theorem Keeps.push (k : Nat) (M : Mem) (x : Blk) : Keeps k M (M.push x) := ⟨fun b y _ h => by rw [Mem.get_push_old (get_live h)]; exact h, fun b s cs h => by rw [Mem.get_push_old (get_live h)]; exact h⟩
theorem Keeps.set {k : Nat} {M : Mem} {b : Nat} {s : Nat} {cs : List Value} (hk : k ≤ b) (hb : M.get b = some (.cells false s cs)) (o : Option Blk) : Keeps k M (M.set b o) :=
  ⟨fun c y hc h => by rw [Mem.get_set_ne (by omega)]; exact h, fun c s' cs' h => by rw [Mem.get_set_ne (fun e => by subst e; rw [hb] at h; cases h)]; exact h⟩
theorem Keeps.ext (k : Nat) (M : Mem) (l : List (Option (Option Blk))) : Keeps k M (ext M l) := ⟨fun b y _ h => ext_get_old l h, fun b s cs h => ext_get_old l h⟩
end Go.Proofs.YtmnebimijlnlkaaGreatDoor
namespace Go.Proofs.YtmnebimijlnlkaaGreatDoor.Abs
open Go
theorem wri {x : Int} (h0 : -9223372036854775808 ≤ x) (h1 : x ≤ 9223372036854775807) : IntKind.i64.wrap x = x := by
  unfold IntKind.wrap; simp [IntKind.bits, IntKind.signed]; omega
theorem vMax_int (a b : Int) : vMin false [.int .i64 a, .int .i64 b] = some (.int .i64 (max a b)) := by
  simp only [vMin, evMin, aMin2]
  by_cases h : b > a
  · simp [h]; omega
  · simp [h]; omega
theorem vMin_int (a b : Int) : vMin true [.int .i64 a, .int .i64 b] = some (.int .i64 (min a b)) := by
  simp only [vMin, evMin, aMin2]
  by_cases h : b < a
  · simp [h]; omega
  · simp [h]; omega
end Go.Proofs.YtmnebimijlnlkaaGreatDoor.Abs
namespace Go.Proofs.YtmnebimijlnlkaaGreatDoor
open Go.RowKit Abs
def dskC (q g : Nat) (d : Dsk) : List Value := [.slice (some ⟨g, 0, none⟩) d.old.length d.old.length, .map (some q), .int .i64 d.fuse, .bool d.dead]
structure DskAt (M : Mem) (p q g : Nat) (d : Dsk) : Prop where
  ok : d.Ok
  row : ∃ s, M.get p = some (.cells false s (dskC q g d))
  kv : M.get q = some (.kv false (ents d.last) d.clock)
  old : M.get g = some (.cells false 1 (d.old.map fun s => .string (str s)))
  pq : p ≠ q
  pg : p ≠ g
  qg : q ≠ g
def Only (l : List Nat) (M M' : Mem) : Prop := ∀ b x, b ∉ l → M.get b = some x → M'.get b = some x
theorem Only.refl (l : List Nat) (M : Mem) : Only l M M := fun _ _ _ h => h
theorem Only.trans {l : List Nat} {A B C : Mem} (h : Only l A B) (k : Only l B C) : Only l A C := fun b x hb hx => k b x hb (h b x hb hx)
theorem Only.set {l : List Nat} {M : Mem} {b : Nat} (hb : b ∈ l) (o : Option Blk) : Only l M (M.set b o) := fun c x hc hx => by
  rw [Mem.get_set_ne (fun e => hc (by rw [← e]; exact hb))]; exact hx
theorem Only.push (l : List Nat) (M : Mem) (x : Blk) : Only l M (M.push x) := fun b y _ hy => by rw [Mem.get_push_old (get_live hy)]; exact hy
theorem Only.mono {l l' : List Nat} {A B : Mem} (h : Only l A B) (hl : ∀ b ∈ l, b ∈ l') : Only l' A B := fun b x hb hx => h b x (fun e => hb (hl b e)) hx
theorem Only.keep {l l' : List Nat} {A B : Mem} (h : Only l A B) (hl : ∀ b ∈ l, b ∈ l' ∨ A.get b = none) : Only l' A B := fun b x hb hx => h b x (fun e => by
  rcases hl b e with h1 | h1
  · exact hb h1
  · rw [h1] at hx; cases hx) hx
theorem DskAt.same {M M' : Mem} {p q g : Nat} {d : Dsk} (h : DskAt M p q g d) (hs : ∀ b x, M.get b = some x → M'.get b = some x) : DskAt M' p q g d :=
  ⟨h.ok, h.row.imp fun _ hr => hs _ _ hr, hs _ _ h.kv, hs _ _ h.old, h.pq, h.pg, h.qg⟩
theorem DskAt.only {M M' : Mem} {p q g : Nat} {d : Dsk} (h : DskAt M p q g d) {l : List Nat} (hs : Only l M M') (hp : p ∉ l) (hq : q ∉ l) (hg : g ∉ l) : DskAt M' p q g d :=
  ⟨h.ok, h.row.imp fun _ hr => hs _ _ hp hr, hs _ _ hq h.kv, hs _ _ hg h.old, h.pq, h.pg, h.qg⟩
theorem DskAt.turn {M : Mem} {p q g : Nat} {d d' : Dsk} (h : DskAt M p q g d) (hok : d'.Ok) (ho : d'.old = d.old) (hl : d'.last = d.last) (hc : d'.clock = d.clock) (s : Nat) : DskAt (M.set p (some (.cells false s (dskC q g d')))) p q g d' := by
  obtain ⟨s0, hr⟩ := h.row
  exact ⟨hok, ⟨s, Mem.get_set_same hr _⟩, by rw [Mem.get_set_ne h.pq, hl, hc]; exact h.kv, by rw [Mem.get_set_ne h.pg, ho]; exact h.old, h.pq, h.pg, h.qg⟩
theorem DskAt.kvTurn {M : Mem} {p q g : Nat} {d : Dsk} (h : DskAt M p q g d) {L : LastL} {c : Nat} (hok : ({ d with last := L, clock := c } : Dsk).Ok) : DskAt (M.set q (some (.kv false (ents L) c))) p q g { d with last := L, clock := c } := by
  obtain ⟨s0, hr⟩ := h.row
  exact ⟨hok, ⟨s0, by rw [Mem.get_set_ne (Ne.symm h.pq)]; exact hr⟩, Mem.get_set_same h.kv _, by rw [Mem.get_set_ne h.qg]; exact h.old, h.pq, h.pg, h.qg⟩
def dp (p : Nat) : Value := .pointer (some ⟨p, 0, none⟩)
theorem pd_eql (p o : Nat) : aBin Tryz.prog .eql 32 true (.pointer (some ⟨p, o, none⟩)) (.pointer none) = some (.bool false) := by kernel_rfl
theorem pd_neq (p o : Nat) : aBin Tryz.prog .neq 32 true (.pointer (some ⟨p, o, none⟩)) (.pointer none) = some (.bool true) := by kernel_rfl
theorem pd_eql0 : aBin Tryz.prog .eql 32 true (.pointer none) (.pointer none) = some (.bool true) := by kernel_rfl
theorem pd_neq0 : aBin Tryz.prog .neq 32 true (.pointer none) (.pointer none) = some (.bool false) := by kernel_rfl
set_option maxRecDepth 100000 in
set_option maxHeartbeats 2000000 in
theorem may_spec (M : Mem) (p q g : Nat) (d : Dsk) (hd : DskAt M p q g d) (i : Int) :
    Abs.Spec Tryz.prog 34 [dp p, .int .i64 i] M fun u M' => u = .int .i64 (d.may i) ∧ M' = M := by
  refine Abs.Spec.walkM Tryz.func34 (by rfl) _ Tryz.results34 _ Tryz.ntmps34 (by simp [dp]) ?_
  intro hc hx k
  unfold dp
  obtain ⟨s, hr⟩ := hd.row
  unfold dskC at hr
  refine CW_seq (CW_region ?_)
  simp only [zZ, reduceIte, Nat.reduceLT, Int.reduceToNat, Int.reduceLE, Int.reduceEq, Int.reduceLT, Nat.reduceEqDiff, Nat.reduceAdd, zDk, pd_eql, pd_neq, pd_eql0, pd_neq0]
  refine CW_seq (CW_block (CW_seq (CW_region ?_)))
  simp only [zZ, reduceIte, Nat.reduceLT, Int.reduceToNat, Int.reduceLE, Int.reduceEq, Int.reduceLT, Nat.reduceEqDiff, Nat.reduceAdd, zDk, pd_eql, pd_neq, pd_eql0, pd_neq0, hr]
  refine CW_cond false (by rfl) (fun h => by cases h) (fun _ => CW_seq (CW_region ?_))
  simp only [zZ, reduceIte, Nat.reduceLT, Int.reduceToNat, Int.reduceLE, Int.reduceEq, Int.reduceLT, Nat.reduceEqDiff, Nat.reduceAdd, zDk, pd_eql, pd_neq, pd_eql0, pd_neq0, hr]
  refine CW_cond d.dead (by rfl) (fun h => CW_seq (CW_region ?_)) (fun h => CW_seq (CW_region ?_))
  · simp only [zZ, reduceIte, Nat.reduceLT, Int.reduceToNat, Int.reduceLE, Int.reduceEq, Int.reduceLT, Nat.reduceEqDiff, Nat.reduceAdd, zDk, pd_eql, pd_neq, pd_eql0, pd_neq0]
    refine CW_ret ?_
    simp only [zZ, reduceIte, Nat.reduceLT, Int.reduceToNat, Int.reduceLE, Int.reduceEq, Int.reduceLT, Nat.reduceEqDiff, Nat.reduceAdd, zDk, pd_eql, pd_neq, pd_eql0, pd_neq0, mEnd, sAnswer, sAnswer.sRes]
    exact ⟨M, Thin.refl _, by unfold Dsk.may; rw [if_pos h], rfl⟩
  have hn : (d.old.length : Int) ≤ 1024 := by have := hd.ok.n; omega
  have fin : ∀ b : Bool, b = decide (i < 0 ∨ (d.old.length : Int) ≤ i) → (if b = true then (10 : Int) else 0) = d.may i := fun b hb => by
    have e0 : d.may i = if i < 0 ∨ (d.old.length : Int) ≤ i then 10 else 0 := by unfold Dsk.may; rw [h]; rfl
    rw [e0, hb]
    by_cases e : i < 0 ∨ (d.old.length : Int) ≤ i <;> simp [e]
  cases q1 : decide (i < 0)
  · simp only [zZ, reduceIte, Nat.reduceLT, Int.reduceToNat, Int.reduceLE, Int.reduceEq, Int.reduceLT, Nat.reduceEqDiff, Nat.reduceAdd, zDk, pd_eql, pd_neq, pd_eql0, pd_neq0, hr, q1]
    refine CW_cond (decide (i ≥ (d.old.length : Int))) (by rfl) (fun h2 => CW_seq (CW_region ?_)) (fun h2 => CW_skip ?_)
    · simp only [zZ, reduceIte, Nat.reduceLT, Int.reduceToNat, Int.reduceLE, Int.reduceEq, Int.reduceLT, Nat.reduceEqDiff, Nat.reduceAdd, zDk, pd_eql, pd_neq, pd_eql0, pd_neq0]
      refine CW_ret ?_
      simp only [zZ, reduceIte, Nat.reduceLT, Int.reduceToNat, Int.reduceLE, Int.reduceEq, Int.reduceLT, Nat.reduceEqDiff, Nat.reduceAdd, zDk, pd_eql, pd_neq, pd_eql0, pd_neq0, mEnd, sAnswer, sAnswer.sRes]
      refine ⟨M, Thin.refl _, ?_, rfl⟩
      rw [← fin true (by have := of_decide_eq_true h2; simp; omega)]; rfl
    · simp only [zZ, reduceIte, Nat.reduceLT, Int.reduceToNat, Int.reduceLE, Int.reduceEq, Int.reduceLT, Nat.reduceEqDiff, Nat.reduceAdd, zDk, pd_eql, pd_neq, pd_eql0, pd_neq0]
      refine CW_seq (CW_region ?_)
      simp only [zZ, reduceIte, Nat.reduceLT, Int.reduceToNat, Int.reduceLE, Int.reduceEq, Int.reduceLT, Nat.reduceEqDiff, Nat.reduceAdd, zDk, pd_eql, pd_neq, pd_eql0, pd_neq0]
      refine CW_ret ?_
      simp only [zZ, reduceIte, Nat.reduceLT, Int.reduceToNat, Int.reduceLE, Int.reduceEq, Int.reduceLT, Nat.reduceEqDiff, Nat.reduceAdd, zDk, pd_eql, pd_neq, pd_eql0, pd_neq0, mEnd, sAnswer, sAnswer.sRes]
      refine ⟨M, Thin.refl _, ?_, rfl⟩
      rw [← fin false (by have := of_decide_eq_false h2; have := of_decide_eq_false q1; simp; omega)]; rfl
  · simp only [zZ, reduceIte, Nat.reduceLT, Int.reduceToNat, Int.reduceLE, Int.reduceEq, Int.reduceLT, Nat.reduceEqDiff, Nat.reduceAdd, zDk, pd_eql, pd_neq, pd_eql0, pd_neq0, hr, q1]
    refine CW_cond true (by rfl) (fun h2 => CW_seq (CW_region ?_)) (fun h2 => by cases h2)
    simp only [zZ, reduceIte, Nat.reduceLT, Int.reduceToNat, Int.reduceLE, Int.reduceEq, Int.reduceLT, Nat.reduceEqDiff, Nat.reduceAdd, zDk, pd_eql, pd_neq, pd_eql0, pd_neq0]
    refine CW_ret ?_
    simp only [zZ, reduceIte, Nat.reduceLT, Int.reduceToNat, Int.reduceLE, Int.reduceEq, Int.reduceLT, Nat.reduceEqDiff, Nat.reduceAdd, zDk, pd_eql, pd_neq, pd_eql0, pd_neq0, mEnd, sAnswer, sAnswer.sRes]
    refine ⟨M, Thin.refl _, ?_, rfl⟩
    rw [← fin true (by have := of_decide_eq_true q1; simp; omega)]; rfl
set_option maxRecDepth 100000 in
set_option maxHeartbeats 2000000 in
theorem dlen_spec (M : Mem) (p q g : Nat) (d : Dsk) (hd : DskAt M p q g d) :
    Abs.Spec Tryz.prog 23 [dp p] M fun u M' => u = .int .i64 (d.old.length : Nat) ∧ M' = M := by
  refine Abs.Spec.walkM Tryz.func23 (by rfl) _ Tryz.results23 _ Tryz.ntmps23 (by simp [dp]) ?_
  intro hc hx k
  unfold dp
  obtain ⟨s, hr⟩ := hd.row
  unfold dskC at hr
  refine CW_seq (CW_region ?_)
  simp only [zZ, reduceIte, Nat.reduceLT, Int.reduceToNat, Int.reduceLE, Int.reduceEq, Int.reduceLT, Nat.reduceEqDiff, Nat.reduceAdd, zDk, pd_eql, pd_neq, pd_eql0, pd_neq0]
  refine CW_seq (CW_seq (CW_region ?_))
  simp only [zZ, reduceIte, Nat.reduceLT, Int.reduceToNat, Int.reduceLE, Int.reduceEq, Int.reduceLT, Nat.reduceEqDiff, Nat.reduceAdd, zDk, pd_eql, pd_neq, pd_eql0, pd_neq0]
  refine CW_cond false (by rfl) (fun h => by cases h) (fun _ => CW_skip ?_)
  simp only [zZ, reduceIte, Nat.reduceLT, Int.reduceToNat, Int.reduceLE, Int.reduceEq, Int.reduceLT, Nat.reduceEqDiff, Nat.reduceAdd, zDk, pd_eql, pd_neq, pd_eql0, pd_neq0]
  refine CW_seq (CW_region ?_)
  simp only [zZ, reduceIte, Nat.reduceLT, Int.reduceToNat, Int.reduceLE, Int.reduceEq, Int.reduceLT, Nat.reduceEqDiff, Nat.reduceAdd, zDk, pd_eql, pd_neq, pd_eql0, pd_neq0, hr]
  refine CW_ret ?_
  simp only [zZ, reduceIte, Nat.reduceLT, Int.reduceToNat, Int.reduceLE, Int.reduceEq, Int.reduceLT, Nat.reduceEqDiff, Nat.reduceAdd, zDk, pd_eql, pd_neq, pd_eql0, pd_neq0, mEnd, sAnswer, sAnswer.sRes]
  exact ⟨M, Thin.refl _, rfl⟩
theorem dlen_none (M : Mem) :
    Abs.Spec Tryz.prog 23 [.pointer none] M fun u M' => u = .int .i64 0 ∧ M' = M := by
  refine Abs.Spec.walkM Tryz.func23 (by rfl) _ Tryz.results23 _ Tryz.ntmps23 (by simp [dp]) ?_
  intro hc hx k
  refine CW_seq (CW_region ?_)
  simp only [zZ, reduceIte, Nat.reduceLT, Int.reduceToNat, Int.reduceLE, Int.reduceEq, Int.reduceLT, Nat.reduceEqDiff, Nat.reduceAdd, zDk, pd_eql, pd_neq, pd_eql0, pd_neq0]
  refine CW_seq (CW_seq (CW_region ?_))
  simp only [zZ, reduceIte, Nat.reduceLT, Int.reduceToNat, Int.reduceLE, Int.reduceEq, Int.reduceLT, Nat.reduceEqDiff, Nat.reduceAdd, zDk, pd_eql, pd_neq, pd_eql0, pd_neq0]
  refine CW_cond true (by rfl) (fun _ => CW_seq (CW_region ?_)) (fun h => by cases h)
  simp only [zZ, reduceIte, Nat.reduceLT, Int.reduceToNat, Int.reduceLE, Int.reduceEq, Int.reduceLT, Nat.reduceEqDiff, Nat.reduceAdd, zDk, pd_eql, pd_neq, pd_eql0, pd_neq0]
  refine CW_ret ?_
  simp only [zZ, reduceIte, Nat.reduceLT, Int.reduceToNat, Int.reduceLE, Int.reduceEq, Int.reduceLT, Nat.reduceEqDiff, Nat.reduceAdd, zDk, pd_eql, pd_neq, pd_eql0, pd_neq0, mEnd, sAnswer, sAnswer.sRes]
  exact ⟨M, Thin.refl _, rfl⟩
set_option maxRecDepth 100000 in
set_option maxHeartbeats 2000000 in
theorem burn_spec (M : Mem) (p q g : Nat) (d : Dsk) (hd : DskAt M p q g d) :
    Abs.Spec Tryz.prog 35 [dp p] M fun u M' => u = .bool (!decide (d.fuse = 0)) ∧ DskAt M' p q g d.burnt ∧ Only [p] M M' ∧ M'.size = M.size := by
  refine Abs.Spec.walkM Tryz.func35 (by rfl) _ Tryz.results35 _ Tryz.ntmps35 (by simp [dp]) ?_
  intro hc hx k
  unfold dp
  obtain ⟨s, hr0⟩ := hd.row
  have hr := hr0
  unfold dskC at hr
  have hfu := hd.ok.fuse
  refine CW_seq (CW_region ?_)
  simp only [zZ, reduceIte, Nat.reduceLT, Int.reduceToNat, Int.reduceLE, Int.reduceEq, Int.reduceLT, Nat.reduceEqDiff, Nat.reduceAdd, zDk, pd_eql, pd_neq, pd_eql0, pd_neq0]
  refine CW_seq (CW_seq (CW_region ?_))
  simp only [zZ, reduceIte, Nat.reduceLT, Int.reduceToNat, Int.reduceLE, Int.reduceEq, Int.reduceLT, Nat.reduceEqDiff, Nat.reduceAdd, zDk, pd_eql, pd_neq, pd_eql0, pd_neq0, hr]
  refine CW_cond (d.fuse == 0) (by rfl) (fun h => CW_seq (CW_region ?_)) (fun h => CW_skip ?_)
  · have h0 : d.fuse = 0 := by simpa using h
    have e : d.burnt = { d with dead := true } := by unfold Dsk.burnt; rw [if_pos h0]
    simp only [zZ, reduceIte, Nat.reduceLT, Int.reduceToNat, Int.reduceLE, Int.reduceEq, Int.reduceLT, Nat.reduceEqDiff, Nat.reduceAdd, zDk, pd_eql, pd_neq, pd_eql0, pd_neq0, hr]
    refine CW_seq (CW_region ?_)
    simp only [zZ, reduceIte, Nat.reduceLT, Int.reduceToNat, Int.reduceLE, Int.reduceEq, Int.reduceLT, Nat.reduceEqDiff, Nat.reduceAdd, zDk, pd_eql, pd_neq, pd_eql0, pd_neq0]
    refine CW_ret ?_
    simp only [zZ, reduceIte, Nat.reduceLT, Int.reduceToNat, Int.reduceLE, Int.reduceEq, Int.reduceLT, Nat.reduceEqDiff, Nat.reduceAdd, zDk, pd_eql, pd_neq, pd_eql0, pd_neq0, mEnd, sAnswer, sAnswer.sRes]
    refine ⟨_, Thin.refl _, by simp [h0], ?_, Only.set (by simp) _, by simp⟩
    have := hd.turn hd.ok.burnt (burnt_old d) (burnt_last d) (burnt_clock d) s
    rw [e] at this ⊢
    exact this
  · have h0 : d.fuse ≠ 0 := by simpa using h
    have e : d.burnt = { d with fuse := max (d.fuse - 1) (-1) } := by unfold Dsk.burnt; rw [if_neg h0]
    simp only [zZ, reduceIte, Nat.reduceLT, Int.reduceToNat, Int.reduceLE, Int.reduceEq, Int.reduceLT, Nat.reduceEqDiff, Nat.reduceAdd, zDk, pd_eql, pd_neq, pd_eql0, pd_neq0]
    refine CW_seq (CW_region ?_)
    have w1 : IntKind.i64.wrap (d.fuse - 1) = d.fuse - 1 := wri (by omega) (by omega)
    simp only [zZ, reduceIte, Nat.reduceLT, Int.reduceToNat, Int.reduceLE, Int.reduceEq, Int.reduceLT, Nat.reduceEqDiff, Nat.reduceAdd, zDk, pd_eql, pd_neq, pd_eql0, pd_neq0, hr, w1, vMax_int]
    refine CW_seq (CW_region ?_)
    simp only [zZ, reduceIte, Nat.reduceLT, Int.reduceToNat, Int.reduceLE, Int.reduceEq, Int.reduceLT, Nat.reduceEqDiff, Nat.reduceAdd, zDk, pd_eql, pd_neq, pd_eql0, pd_neq0]
    refine CW_ret ?_
    simp only [zZ, reduceIte, Nat.reduceLT, Int.reduceToNat, Int.reduceLE, Int.reduceEq, Int.reduceLT, Nat.reduceEqDiff, Nat.reduceAdd, zDk, pd_eql, pd_neq, pd_eql0, pd_neq0, mEnd, sAnswer, sAnswer.sRes]
    refine ⟨_, Thin.refl _, by simp [h0], ?_, Only.set (by simp) _, by simp⟩
    have := hd.turn hd.ok.burnt (burnt_old d) (burnt_last d) (burnt_clock d) s
    rw [e] at this ⊢
    exact this
theorem dead_spec (M : Mem) (p q g : Nat) (d : Dsk) (hd : DskAt M p q g d) :
    Abs.Spec Tryz.prog 24 [dp p] M fun u M' => u = .bool d.dead ∧ M' = M := by
  refine Abs.Spec.walkM Tryz.func24 (by rfl) _ Tryz.results24 _ Tryz.ntmps24 (by simp [dp]) ?_
  intro hc hx k
  unfold dp
  obtain ⟨s, hr⟩ := hd.row
  unfold dskC at hr
  refine CW_seq (CW_region ?_)
  simp only [zZ, reduceIte, Nat.reduceLT, Int.reduceToNat, Int.reduceLE, Int.reduceEq, Int.reduceLT, Nat.reduceEqDiff, Nat.reduceAdd, zDk, pd_eql, pd_neq, pd_eql0, pd_neq0]
  refine CW_seq (CW_region ?_)
  simp only [zZ, reduceIte, Nat.reduceLT, Int.reduceToNat, Int.reduceLE, Int.reduceEq, Int.reduceLT, Nat.reduceEqDiff, Nat.reduceAdd, zDk, pd_eql, pd_neq, pd_eql0, pd_neq0, hr]
  refine CW_ret ?_
  simp only [zZ, reduceIte, Nat.reduceLT, Int.reduceToNat, Int.reduceLE, Int.reduceEq, Int.reduceLT, Nat.reduceEqDiff, Nat.reduceAdd, zDk, pd_eql, pd_neq, pd_eql0, pd_neq0, mEnd, sAnswer, sAnswer.sRes]
  exact ⟨M, Thin.refl _, rfl⟩
theorem fuse_spec (M : Mem) (p q g : Nat) (d : Dsk) (hd : DskAt M p q g d) (n : Int) (hn : n ≤ 9223372036854775807) :
    Abs.Spec Tryz.prog 11 [dp p, .int .i64 n] M fun u M' => u = .tuple #[] ∧ DskAt M' p q g (if d.dead = true then d else { d with fuse := max n (-1) }) ∧ Only [p] M M' ∧ M'.size = M.size := by
  refine Abs.Spec.walkM Tryz.func11 (by rfl) _ Tryz.results11 _ Tryz.ntmps11 (by simp [dp]) ?_
  intro hc hx k
  unfold dp
  obtain ⟨s, hr⟩ := hd.row
  unfold dskC at hr
  refine CW_seq (CW_region ?_)
  simp only [zZ, reduceIte, Nat.reduceLT, Int.reduceToNat, Int.reduceLE, Int.reduceEq, Int.reduceLT, Nat.reduceEqDiff, Nat.reduceAdd, zDk, pd_eql, pd_neq, pd_eql0, pd_neq0, hr]
  obtain ⟨D, hD⟩ : ∃ D, D = (if d.dead = true then d else { d with fuse := max n (-1) }) := ⟨_, rfl⟩
  rw [← hD]
  refine CW_cond (!d.dead) (by rfl) (fun h => CW_region ?_) (fun h => CW_skip ?_)
  · have hdead : d.dead = false := by simpa using h
    rw [if_neg (by rw [hdead]; simp)] at hD
    simp only [zZ, reduceIte, Nat.reduceLT, Int.reduceToNat, Int.reduceLE, Int.reduceEq, Int.reduceLT, Nat.reduceEqDiff, Nat.reduceAdd, zDk, pd_eql, pd_neq, pd_eql0, pd_neq0, hr, vMax_int, mEnd, sAnswer, sAnswer.sRes]
    refine ⟨_, Thin.refl _, ?_, Only.set (by simp) _, by simp⟩
    have := hd.turn (d' := D) (by rw [hD]; exact ⟨hd.ok.n, hd.ok.pos, hd.ok.size, hd.ok.keys, hd.ok.born, hd.ok.clock, hd.ok.within, by simp only; omega, trivial⟩) (by rw [hD]) (by rw [hD]) (by rw [hD]) s
    rw [hD] at this ⊢
    exact this
  · have hdead : d.dead = true := by simpa using h
    rw [if_pos hdead] at hD
    simp only [zZ, reduceIte, Nat.reduceLT, Int.reduceToNat, Int.reduceLE, Int.reduceEq, Int.reduceLT, Nat.reduceEqDiff, Nat.reduceAdd, zDk, pd_eql, pd_neq, pd_eql0, pd_neq0, mEnd, sAnswer, sAnswer.sRes]
    exact ⟨M, Thin.refl _, by rw [hD]; exact hd, Only.refl _ _, rfl⟩
set_option maxRecDepth 100000 in
set_option maxHeartbeats 2000000 in
theorem read_spec (M : Mem) (p q g : Nat) (d : Dsk) (hd : DskAt M p q g d) (i : Int) :
    Abs.Spec Tryz.prog 40 [dp p, .int .i64 i] M fun u M' => u = .tuple #[.string (str (d.read i).1), .int .i64 (d.read i).2] ∧ M' = M := by
  refine Abs.Spec.walkM Tryz.func40 (by rfl) _ Tryz.results40 _ Tryz.ntmps40 (by simp [dp]) ?_
  intro hc hx k
  obtain ⟨s, hr⟩ := hd.row
  unfold dskC at hr
  refine CW_seq (CW_region ?_)
  simp only [zZ, reduceIte, Nat.reduceLT, Int.reduceToNat, Int.reduceLE, Int.reduceEq, Int.reduceLT, Nat.reduceEqDiff, Nat.reduceAdd, zDk, pd_eql, pd_neq, pd_eql0, pd_neq0]
  refine CW_seq (CW_seq (CW_region ?_))
  simp only [zZ, reduceIte, Nat.reduceLT, Int.reduceToNat, Int.reduceLE, Int.reduceEq, Int.reduceLT, Nat.reduceEqDiff, Nat.reduceAdd, zDk, pd_eql, pd_neq, pd_eql0, pd_neq0]
  refine ⟨by kernel_rfl, _, may_spec M p q g d hd i, ?_⟩
  rintro _ M9 ⟨rfl, e9⟩; replace e9 := e9.symm; subst e9
  simp only [zZ, reduceIte, Nat.reduceLT, Int.reduceToNat, Int.reduceLE, Int.reduceEq, Int.reduceLT, Nat.reduceEqDiff, Nat.reduceAdd, zDk, pd_eql, pd_neq, pd_eql0, pd_neq0]
  refine CW_seq (CW_region ?_)
  simp only [zZ, reduceIte, Nat.reduceLT, Int.reduceToNat, Int.reduceLE, Int.reduceEq, Int.reduceLT, Nat.reduceEqDiff, Nat.reduceAdd, zDk, pd_eql, pd_neq, pd_eql0, pd_neq0]
  refine CW_cond (d.may i != 0) (by rfl) (fun h => CW_seq (CW_region ?_)) (fun h => CW_skip ?_)
  · simp only [zZ, reduceIte, Nat.reduceLT, Int.reduceToNat, Int.reduceLE, Int.reduceEq, Int.reduceLT, Nat.reduceEqDiff, Nat.reduceAdd, zDk, pd_eql, pd_neq, pd_eql0, pd_neq0]
    refine CW_ret ?_
    simp only [zZ, reduceIte, Nat.reduceLT, Int.reduceToNat, Int.reduceLE, Int.reduceEq, Int.reduceLT, Nat.reduceEqDiff, Nat.reduceAdd, zDk, pd_eql, pd_neq, pd_eql0, pd_neq0, mEnd, sAnswer, sAnswer.sRes]
    have h : d.may i ≠ 0 := by simpa using h
    unfold Dsk.read
    rw [if_neg h]
    exact ⟨_, Thin.refl _, rfl, rfl⟩
  have h : d.may i = 0 := by simpa using h
  simp only [zZ, reduceIte, Nat.reduceLT, Int.reduceToNat, Int.reduceLE, Int.reduceEq, Int.reduceLT, Nat.reduceEqDiff, Nat.reduceAdd, zDk, pd_eql, pd_neq, pd_eql0, pd_neq0]
  obtain ⟨n, rfl, hn⟩ : ∃ n : Nat, i = (n : Int) ∧ n < d.old.length := by
    unfold Dsk.may at h
    split at h
    · cases h
    · split at h
      · cases h
      · exact ⟨i.toNat, by omega, by omega⟩
  have hrd : d.read (n : Int) = (d.sector n, 0) := by unfold Dsk.read; rw [if_pos h]; rfl
  rw [hrd]
  have hdp : dp p = .pointer (some ⟨p, 0, none⟩) := rfl
  refine CW_seq (CW_seq (CW_region ?_))
  simp only [zZ, reduceIte, Nat.reduceLT, Int.reduceToNat, Int.reduceLE, Int.reduceEq, Int.reduceLT, Nat.reduceEqDiff, Nat.reduceAdd, zDk, pd_eql, pd_neq, pd_eql0, pd_neq0, hr, hdp, look_dsk hd.kv]
  refine CW_seq (CW_region ?_)
  simp only [zZ, reduceIte, Nat.reduceLT, Int.reduceToNat, Int.reduceLE, Int.reduceEq, Int.reduceLT, Nat.reduceEqDiff, Nat.reduceAdd, zDk, pd_eql, pd_neq, pd_eql0, pd_neq0]
  cases hl : lastOf d.last n with
  | some s' =>
    simp only [Option.isSome_some, Option.getD_some]
    refine CW_cond true (by rfl) (fun _ => CW_seq (CW_region ?_)) (fun h => by cases h)
    simp only [zZ, reduceIte, Nat.reduceLT, Int.reduceToNat, Int.reduceLE, Int.reduceEq, Int.reduceLT, Nat.reduceEqDiff, Nat.reduceAdd, zDk, pd_eql, pd_neq, pd_eql0, pd_neq0]
    refine CW_ret ?_
    simp only [zZ, reduceIte, Nat.reduceLT, Int.reduceToNat, Int.reduceLE, Int.reduceEq, Int.reduceLT, Nat.reduceEqDiff, Nat.reduceAdd, zDk, pd_eql, pd_neq, pd_eql0, pd_neq0, mEnd, sAnswer, sAnswer.sRes]
    unfold Dsk.sector
    rw [hl]
    exact ⟨_, Thin.refl _, rfl, rfl⟩
  | none =>
    simp only [Option.isSome_none, Option.getD_none]
    refine CW_cond false (by rfl) (fun h => by cases h) (fun _ => CW_skip ?_)
    simp only [zZ, reduceIte, Nat.reduceLT, Int.reduceToNat, Int.reduceLE, Int.reduceEq, Int.reduceLT, Nat.reduceEqDiff, Nat.reduceAdd, zDk, pd_eql, pd_neq, pd_eql0, pd_neq0]
    refine CW_seq (CW_region ?_)
    have g0 : (0 : Int) ≤ (n : Int) := by omega
    have g1 : (n : Int) < (d.old.length : Int) := by omega
    have hc : cellIn n (some (.cells false 1 (d.old.map fun s => .string (str s)))) = some (.string (str ((d.old[n]?).getD []))) := by
      simp only [cellIn, List.getElem?_map, List.getElem?_eq_getElem hn, Option.map_some, Option.getD_some]
    simp only [zZ, reduceIte, Nat.reduceLT, Int.reduceToNat, Int.reduceLE, Int.reduceEq, Int.reduceLT, Nat.reduceEqDiff, Nat.reduceAdd, zDk, pd_eql, pd_neq, pd_eql0, pd_neq0, hr, g0, g1, and_self, hd.old, hc]
    refine CW_ret ?_
    simp only [zZ, reduceIte, Nat.reduceLT, Int.reduceToNat, Int.reduceLE, Int.reduceEq, Int.reduceLT, Nat.reduceEqDiff, Nat.reduceAdd, zDk, pd_eql, pd_neq, pd_eql0, pd_neq0, mEnd, sAnswer, sAnswer.sRes]
    unfold Dsk.sector
    rw [hl]
    exact ⟨_, Thin.refl _, rfl, rfl⟩
theorem rep_zero : ∀ k : Nat, Lib.repeatL [(0 : UInt8)] k = List.replicate k 0
  | 0 => rfl
  | k + 1 => by rw [Lib.repeatL, rep_zero k]; rfl
set_option maxRecDepth 100000 in
set_option maxHeartbeats 2000000 in
theorem write_spec (M : Mem) (p q g : Nat) (d : Dsk) (hd : DskAt M p q g d) (i : Int) (x : List UInt8) (hx0 : x.length ≤ 1000000) :
    Abs.Spec Tryz.prog 42 [dp p, .int .i64 i, .string (str x)] M fun u M' => u = .int .i64 (d.write i x).2 ∧ DskAt M' p q g (d.write i x).1 ∧ Only [p, q] M M' ∧ M'.size = M.size := by
  refine Abs.Spec.walkM Tryz.func42 (by rfl) _ Tryz.results42 _ Tryz.ntmps42 (by simp [dp]) ?_
  intro hc hx k
  have hbs : bsize (str x) = x.length := rfl
  obtain ⟨D, hD⟩ : ∃ D, D = d.write i x := ⟨_, rfl⟩
  rw [← hD]
  unfold Dsk.write at hD
  refine CW_seq (CW_region ?_)
  simp only [zZ, reduceIte, Nat.reduceLT, Int.reduceToNat, Int.reduceLE, Int.reduceEq, Int.reduceLT, Nat.reduceEqDiff, Nat.reduceAdd, zDk, pd_eql, pd_neq, pd_eql0, pd_neq0]
  refine CW_seq (CW_seq (CW_region ?_))
  simp only [zZ, reduceIte, Nat.reduceLT, Int.reduceToNat, Int.reduceLE, Int.reduceEq, Int.reduceLT, Nat.reduceEqDiff, Nat.reduceAdd, zDk, pd_eql, pd_neq, pd_eql0, pd_neq0]
  refine ⟨by kernel_rfl, _, may_spec M p q g d hd i, ?_⟩
  rintro _ M9 ⟨rfl, e9⟩; replace e9 := e9.symm; subst e9
  simp only [zZ, reduceIte, Nat.reduceLT, Int.reduceToNat, Int.reduceLE, Int.reduceEq, Int.reduceLT, Nat.reduceEqDiff, Nat.reduceAdd, zDk, pd_eql, pd_neq, pd_eql0, pd_neq0]
  refine CW_seq (CW_region ?_)
  simp only [zZ, reduceIte, Nat.reduceLT, Int.reduceToNat, Int.reduceLE, Int.reduceEq, Int.reduceLT, Nat.reduceEqDiff, Nat.reduceAdd, zDk, pd_eql, pd_neq, pd_eql0, pd_neq0]
  refine CW_cond (d.may i != 0) (by rfl) (fun h => CW_seq (CW_region ?_)) (fun h => CW_skip ?_)
  · simp only [zZ, reduceIte, Nat.reduceLT, Int.reduceToNat, Int.reduceLE, Int.reduceEq, Int.reduceLT, Nat.reduceEqDiff, Nat.reduceAdd, zDk, pd_eql, pd_neq, pd_eql0, pd_neq0]
    refine CW_ret ?_
    simp only [zZ, reduceIte, Nat.reduceLT, Int.reduceToNat, Int.reduceLE, Int.reduceEq, Int.reduceLT, Nat.reduceEqDiff, Nat.reduceAdd, zDk, pd_eql, pd_neq, pd_eql0, pd_neq0, mEnd, sAnswer, sAnswer.sRes]
    have h : d.may i ≠ 0 := by simpa using h
    rw [if_pos h] at hD
    subst hD
    exact ⟨_, Thin.refl _, rfl, hd, Only.refl _ _, rfl⟩
  have h : d.may i = 0 := by simpa using h
  rw [if_neg (by simp [h])] at hD
  simp only [zZ, reduceIte, Nat.reduceLT, Int.reduceToNat, Int.reduceLE, Int.reduceEq, Int.reduceLT, Nat.reduceEqDiff, Nat.reduceAdd, zDk, pd_eql, pd_neq, pd_eql0, pd_neq0]
  obtain ⟨n, rfl, hn⟩ : ∃ n : Nat, i = (n : Int) ∧ n < d.old.length := by
    unfold Dsk.may at h
    split at h
    · cases h
    · split at h
      · cases h
      · exact ⟨i.toNat, by omega, by omega⟩
  refine CW_seq (CW_seq (CW_region ?_))
  simp only [zZ, reduceIte, Nat.reduceLT, Int.reduceToNat, Int.reduceLE, Int.reduceEq, Int.reduceLT, Nat.reduceEqDiff, Nat.reduceAdd, zDk, pd_eql, pd_neq, pd_eql0, pd_neq0, hbs]
  refine CW_cond (decide ((x.length : Int) > 256)) (by rfl) (fun h => CW_seq (CW_region ?_)) (fun h => CW_skip ?_)
  · simp only [zZ, reduceIte, Nat.reduceLT, Int.reduceToNat, Int.reduceLE, Int.reduceEq, Int.reduceLT, Nat.reduceEqDiff, Nat.reduceAdd, zDk, pd_eql, pd_neq, pd_eql0, pd_neq0]
    refine CW_ret ?_
    simp only [zZ, reduceIte, Nat.reduceLT, Int.reduceToNat, Int.reduceLE, Int.reduceEq, Int.reduceLT, Nat.reduceEqDiff, Nat.reduceAdd, zDk, pd_eql, pd_neq, pd_eql0, pd_neq0, mEnd, sAnswer, sAnswer.sRes]
    have h := of_decide_eq_true h
    rw [if_pos (by omega)] at hD
    subst hD
    exact ⟨_, Thin.refl _, rfl, hd, Only.refl _ _, rfl⟩
  have h2 := of_decide_eq_false h
  rw [if_neg (by omega)] at hD
  simp only [zZ, reduceIte, Nat.reduceLT, Int.reduceToNat, Int.reduceLE, Int.reduceEq, Int.reduceLT, Nat.reduceEqDiff, Nat.reduceAdd, zDk, pd_eql, pd_neq, pd_eql0, pd_neq0]
  refine CW_seq (CW_seq (CW_region ?_))
  simp only [zZ, reduceIte, Nat.reduceLT, Int.reduceToNat, Int.reduceLE, Int.reduceEq, Int.reduceLT, Nat.reduceEqDiff, Nat.reduceAdd, zDk, pd_eql, pd_neq, pd_eql0, pd_neq0]
  refine ⟨by kernel_rfl, _, burn_spec M p q g d hd, ?_⟩
  rintro _ M1 ⟨rfl, hd1, ho1, hs1⟩
  simp only [zZ, reduceIte, Nat.reduceLT, Int.reduceToNat, Int.reduceLE, Int.reduceEq, Int.reduceLT, Nat.reduceEqDiff, Nat.reduceAdd, zDk, pd_eql, pd_neq, pd_eql0, pd_neq0]
  refine CW_cond (!!decide (d.fuse = 0)) (by rfl) (fun h => CW_seq (CW_region ?_)) (fun h => CW_skip ?_)
  · simp only [zZ, reduceIte, Nat.reduceLT, Int.reduceToNat, Int.reduceLE, Int.reduceEq, Int.reduceLT, Nat.reduceEqDiff, Nat.reduceAdd, zDk, pd_eql, pd_neq, pd_eql0, pd_neq0]
    refine CW_ret ?_
    simp only [zZ, reduceIte, Nat.reduceLT, Int.reduceToNat, Int.reduceLE, Int.reduceEq, Int.reduceLT, Nat.reduceEqDiff, Nat.reduceAdd, zDk, pd_eql, pd_neq, pd_eql0, pd_neq0, mEnd, sAnswer, sAnswer.sRes]
    rw [Bool.not_not] at h
    have h := of_decide_eq_true h
    rw [if_pos h] at hD
    subst hD
    exact ⟨_, Thin.refl _, rfl, hd1, ho1.mono (by simp), hs1⟩
  rw [Bool.not_not] at h
  have h3 := of_decide_eq_false h
  rw [if_neg h3] at hD
  simp only [zZ, reduceIte, Nat.reduceLT, Int.reduceToNat, Int.reduceLE, Int.reduceEq, Int.reduceLT, Nat.reduceEqDiff, Nat.reduceAdd, zDk, pd_eql, pd_neq, pd_eql0, pd_neq0]
  obtain ⟨s, hr⟩ := hd1.row
  unfold dskC at hr
  have w1 : IntKind.i64.wrap (256 - (x.length : Int)) = ((256 - x.length : Nat) : Int) := by rw [wri (by omega) (by omega)]; omega
  have hrep : Lib.repeatL [(0 : UInt8)] (256 - x.length) = List.replicate (256 - x.length) 0 := rep_zero _
  have hdp : dp p = .pointer (some ⟨p, 0, none⟩) := rfl
  have hcat : bsize (str x) + bsize (str (Lib.repeatL (str [0]).data.toList (256 - x.length))) ≤ 4611686018427387904 := by
    show bsize (str x) + bsize (str (Lib.repeatL [0] (256 - x.length))) ≤ _
    rw [hrep]; show x.length + (List.replicate (256 - x.length) (0 : UInt8)).length ≤ _; simp; omega
  have hcat2 : bcat (str x) (str (Lib.repeatL (str [0]).data.toList (256 - x.length))) = str (filled x) := by
    show bcat (str x) (str (Lib.repeatL [0] (256 - x.length))) = _
    rw [hrep]; rfl
  refine CW_seq (CW_draw2 hmix 11 (by kernel_rfl) ?_)
  simp only [zZ, reduceIte, Nat.reduceLT, Int.reduceToNat, Int.reduceLE, Int.reduceEq, Int.reduceLT, Nat.reduceEqDiff, Nat.reduceAdd, zDk, pd_eql, pd_neq, pd_eql0, pd_neq0, hr, hdp, w1, hbs]
  refine ⟨by kernel_rfl, _, repeat_spec (str [0]) (256 - x.length) (by omega) (by show 1 * (256 - x.length) ≤ _; omega) _, ?_⟩
  refine ⟨by decide, ?_⟩
  have hupd := upd_dsk (s := filled x) hd1.kv hd1.ok.keys n
  simp only [zZ, reduceIte, Nat.reduceLT, Int.reduceToNat, Int.reduceLE, Int.reduceEq, Int.reduceLT, Nat.reduceEqDiff, Nat.reduceAdd, zDk, pd_eql, pd_neq, pd_eql0, pd_neq0, hr]
  refine ⟨hcat, ?_⟩
  simp only [zZ, reduceIte, Nat.reduceLT, Int.reduceToNat, Int.reduceLE, Int.reduceEq, Int.reduceLT, Nat.reduceEqDiff, Nat.reduceAdd, zDk, pd_eql, pd_neq, pd_eql0, pd_neq0, hcat2, hupd]
  refine CW_seq (CW_region ?_)
  simp only [zZ, reduceIte, Nat.reduceLT, Int.reduceToNat, Int.reduceLE, Int.reduceEq, Int.reduceLT, Nat.reduceEqDiff, Nat.reduceAdd, zDk, pd_eql, pd_neq, pd_eql0, pd_neq0]
  refine CW_ret ?_
  simp only [zZ, reduceIte, Nat.reduceLT, Int.reduceToNat, Int.reduceLE, Int.reduceEq, Int.reduceLT, Nat.reduceEqDiff, Nat.reduceAdd, zDk, pd_eql, pd_neq, pd_eql0, pd_neq0, mEnd, sAnswer, sAnswer.sRes]
  subst hD
  have hok := hd1.ok.put (i := n) (by rw [burnt_old]; exact hn) (filled_len (s := x) (by omega))
  refine ⟨_, Thin.refl _, rfl, hd1.kvTurn hok, (ho1.mono (by simp)).trans (Only.set (by simp) _), by simp [hs1]⟩
end Go.Proofs.YtmnebimijlnlkaaGreatDoor
namespace Go.Proofs.YtmnebimijlnlkaaGreatDoor
open Go.RowKit Abs
theorem next_dsk {m : Mem} {r q since last c : Nat} {seen : List Nat} {ro : Bool} {L : LastL} (hr : m.get r = some (.it false q since seen last)) (hq : m.get q = some (.kv ro (ents L) c)) (hc : ∀ x ∈ L, x.2.2 < since) (hl : since ≤ last) :
    aNext m (.pointer (some ⟨r, 0, none⟩)) = some fun v m' => (v = .tuple #[.bool false] ∧ m' = m ∧ aLeft (ents L) seen = []) ∨ ∃ e ∈ aLeft (ents L) seen, v = .tuple #[.bool true, e.key, e.val] ∧ m' = m.set r (some (.it false q since (seen ++ [e.born]) c)) := by
  unfold aNext
  simp only [hr, hq]
  rw [if_pos ⟨by
    rw [List.all_eq_true]
    intro e he
    unfold ents at he
    rw [List.mem_map] at he
    obtain ⟨x, hx, rfl⟩ := he
    simpa using hc x hx, hl⟩]
theorem entry_dsk {get : Nat → Option Blk} {r q since c : Nat} {seen : List Nat} {ro ro' : Bool} {L : LastL} {x : Nat × List UInt8 × Nat} (hr : get r = some (.it ro' q since (seen ++ [x.2.2]) c)) (hq : get q = some (.kv ro (ents L) c)) (hb : (L.map (·.2.2)).Nodup) (hx : x ∈ L) :
    aEntry get (.pointer (some ⟨r, 0, none⟩)) = some (.tuple #[.int .i64 (x.1 : Nat), .string (str x.2.1)]) := by
  unfold aEntry
  simp only [hr, hq, if_true, List.getLast?_concat, ents_find hb hx]
theorem syncV_size {E : Dsk} (h : E.Ok) (seen : List Nat) {s : List UInt8} (hs : s ∈ syncV E.old E.last seen) : s.length = 256 := by
  unfold syncV at hs
  rw [List.mem_mapIdx] at hs
  obtain ⟨i, hi, rfl⟩ := hs
  split
  · rename_i x hx
    exact (h.within x (List.mem_of_find?_eq_some hx)).2
  · exact h.size _ (List.getElem_mem hi)
theorem nodup_born {L : LastL} (h : (L.map (·.2.2)).Nodup) {x y : Nat × List UInt8 × Nat} (hx : x ∈ L) (hy : y ∈ L) (e : x.2.2 = y.2.2) : x = y := by
  induction L with
  | nil => cases hx
  | cons a L ih =>
    rw [List.map_cons, List.nodup_cons] at h
    rcases List.mem_cons.1 hx with rfl | hx' <;> rcases List.mem_cons.1 hy with rfl | hy'
    · rfl
    · exact absurd (List.mem_map.2 ⟨y, hy', e.symm⟩) h.1
    · exact absurd (List.mem_map.2 ⟨x, hx', e⟩) h.1
    · exact ih h.2 hx' hy'
set_option maxRecDepth 100000 in
set_option maxHeartbeats 2000000 in
theorem sync_spec (M : Mem) (p q g : Nat) (d : Dsk) (hd : DskAt M p q g d) :
    Abs.Spec Tryz.prog 12 [dp p] M fun u M' => u = .int .i64 d.sync.2 ∧ DskAt M' p q g d.sync.1 ∧ Only [p, q, g] M M' ∧ M.size ≤ M'.size := by
  refine Abs.Spec.walkM Tryz.func12 (by rfl) _ Tryz.results12 _ Tryz.ntmps12 (by simp [dp]) ?_
  intro hc hx k
  obtain ⟨D, hD⟩ : ∃ D, D = d.sync := ⟨_, rfl⟩
  rw [← hD]
  unfold Dsk.sync at hD
  refine CW_seq (CW_region ?_)
  simp only [zZ, reduceIte, Nat.reduceLT, Int.reduceToNat, Int.reduceLE, Int.reduceEq, Int.reduceLT, Nat.reduceEqDiff, Nat.reduceAdd, zDk, pd_eql, pd_neq, pd_eql0, pd_neq0]
  refine CW_seq (CW_seq (CW_region ?_))
  simp only [zZ, reduceIte, Nat.reduceLT, Int.reduceToNat, Int.reduceLE, Int.reduceEq, Int.reduceLT, Nat.reduceEqDiff, Nat.reduceAdd, zDk, pd_eql, pd_neq, pd_eql0, pd_neq0]
  refine ⟨by kernel_rfl, _, may_spec M p q g d hd 0, ?_⟩
  rintro _ M9 ⟨rfl, e9⟩; replace e9 := e9.symm; subst e9
  simp only [zZ, reduceIte, Nat.reduceLT, Int.reduceToNat, Int.reduceLE, Int.reduceEq, Int.reduceLT, Nat.reduceEqDiff, Nat.reduceAdd, zDk, pd_eql, pd_neq, pd_eql0, pd_neq0]
  refine CW_seq (CW_region ?_)
  simp only [zZ, reduceIte, Nat.reduceLT, Int.reduceToNat, Int.reduceLE, Int.reduceEq, Int.reduceLT, Nat.reduceEqDiff, Nat.reduceAdd, zDk, pd_eql, pd_neq, pd_eql0, pd_neq0]
  refine CW_cond (d.may 0 != 0) (by rfl) (fun h => CW_seq (CW_region ?_)) (fun h => CW_skip ?_)
  · simp only [zZ, reduceIte, Nat.reduceLT, Int.reduceToNat, Int.reduceLE, Int.reduceEq, Int.reduceLT, Nat.reduceEqDiff, Nat.reduceAdd, zDk, pd_eql, pd_neq, pd_eql0, pd_neq0]
    refine CW_ret ?_
    simp only [zZ, reduceIte, Nat.reduceLT, Int.reduceToNat, Int.reduceLE, Int.reduceEq, Int.reduceLT, Nat.reduceEqDiff, Nat.reduceAdd, zDk, pd_eql, pd_neq, pd_eql0, pd_neq0, mEnd, sAnswer, sAnswer.sRes]
    have h : d.may 0 ≠ 0 := by simpa using h
    rw [if_pos h] at hD
    subst hD
    exact ⟨_, Thin.refl _, rfl, hd, Only.refl _ _, Nat.le_refl _⟩
  have h : d.may 0 = 0 := by simpa using h
  rw [if_neg (by simp [h])] at hD
  simp only [zZ, reduceIte, Nat.reduceLT, Int.reduceToNat, Int.reduceLE, Int.reduceEq, Int.reduceLT, Nat.reduceEqDiff, Nat.reduceAdd, zDk, pd_eql, pd_neq, pd_eql0, pd_neq0]
  refine CW_seq (CW_seq (CW_region ?_))
  simp only [zZ, reduceIte, Nat.reduceLT, Int.reduceToNat, Int.reduceLE, Int.reduceEq, Int.reduceLT, Nat.reduceEqDiff, Nat.reduceAdd, zDk, pd_eql, pd_neq, pd_eql0, pd_neq0]
  refine ⟨by kernel_rfl, _, burn_spec M p q g d hd, ?_⟩
  rintro _ M1 ⟨rfl, hd1, ho1, hs1⟩
  simp only [zZ, reduceIte, Nat.reduceLT, Int.reduceToNat, Int.reduceLE, Int.reduceEq, Int.reduceLT, Nat.reduceEqDiff, Nat.reduceAdd, zDk, pd_eql, pd_neq, pd_eql0, pd_neq0]
  refine CW_cond (!!decide (d.fuse = 0)) (by rfl) (fun h => CW_seq (CW_region ?_)) (fun h => CW_skip ?_)
  · simp only [zZ, reduceIte, Nat.reduceLT, Int.reduceToNat, Int.reduceLE, Int.reduceEq, Int.reduceLT, Nat.reduceEqDiff, Nat.reduceAdd, zDk, pd_eql, pd_neq, pd_eql0, pd_neq0]
    refine CW_ret ?_
    simp only [zZ, reduceIte, Nat.reduceLT, Int.reduceToNat, Int.reduceLE, Int.reduceEq, Int.reduceLT, Nat.reduceEqDiff, Nat.reduceAdd, zDk, pd_eql, pd_neq, pd_eql0, pd_neq0, mEnd, sAnswer, sAnswer.sRes]
    rw [Bool.not_not] at h
    have h := of_decide_eq_true h
    rw [if_pos h] at hD
    subst hD
    exact ⟨_, Thin.refl _, rfl, hd1, ho1.mono (by simp), by omega⟩
  rw [Bool.not_not] at h
  have h3 := of_decide_eq_false h
  rw [if_neg h3] at hD
  simp only [zZ, reduceIte, Nat.reduceLT, Int.reduceToNat, Int.reduceLE, Int.reduceEq, Int.reduceLT, Nat.reduceEqDiff, Nat.reduceAdd, zDk, pd_eql, pd_neq, pd_eql0, pd_neq0]
  have hdp : dp p = .pointer (some ⟨p, 0, none⟩) := rfl
  obtain ⟨E, hE⟩ : ∃ E, E = d.burnt := ⟨_, rfl⟩
  rw [← hE] at hd1 hD
  clear hE
  obtain ⟨s, hr⟩ := hd1.row
  have hr' := hr
  unfold dskC at hr
  refine CW_seq (CW_seq (CW_region ?_))
  simp only [zZ, reduceIte, Nat.reduceLT, Int.reduceToNat, Int.reduceLE, Int.reduceEq, Int.reduceLT, Nat.reduceEqDiff, Nat.reduceAdd, zDk, pd_eql, pd_neq, pd_eql0, pd_neq0, hr, hdp, range_dsk hd1.kv]
  obtain ⟨M2, hM2⟩ : ∃ M2, M2 = M1.push (.it false q E.clock [] E.clock) := ⟨_, rfl⟩
  obtain ⟨r, hr0⟩ : ∃ r, r = M1.size := ⟨_, rfl⟩
  rw [← hM2, ← hr0]
  have hrp : r ≠ p := by have := get_live hr; omega
  have hrq : r ≠ q := by have := get_live hd1.kv; omega
  have hrg : r ≠ g := by have := get_live hd1.old; omega
  have hit : M2.get r = some (.it false q E.clock [] E.clock) := by rw [hM2, hr0, Mem.get_push_new]
  have hold2 : ∀ b x, M1.get b = some x → M2.get b = some x := fun b x hb => by rw [hM2, Mem.get_push_old (get_live hb)]; exact hb
  have hs2 : M2.size = M1.size + 1 := by rw [hM2, Mem.size_push]
  refine CW_block (MW_loop (fun j f M' => ∃ seen : List Nat, j = (aLeft (ents E.last) seen).length ∧ f = [(0, .pointer (some ⟨p, 0, none⟩)), (18, .pointer (some ⟨r, 0, none⟩))] ∧ M'.get r = some (.it false q E.clock seen E.clock) ∧
    DskAt M' p q g { E with old := syncV E.old E.last seen } ∧ Only [g, r] M2 M' ∧ M'.size = M2.size) (aLeft (ents E.last) []).length ?_ ?_)
  · refine ⟨[0, 18], ?_⟩
    simp only [zZ, reduceIte, Nat.reduceLT, Int.reduceToNat, Int.reduceLE, Int.reduceEq, Int.reduceLT, Nat.reduceEqDiff, Nat.reduceAdd, keepF]
    refine ⟨M2, Thin.refl _, [], rfl, hit, ?_, Only.refl _ _, rfl⟩
    rw [syncV_nil]
    exact hd1.same hold2
  · rintro j f M' ⟨seen, rfl, rfl, hit', hd', ho', hs'⟩
    have hnx := next_dsk hit' hd'.kv (by exact hd1.ok.clock) (Nat.le_refl _)
    refine CW_seq (CW_region ?_)
    simp only [zZ, reduceIte, Nat.reduceLT, Int.reduceToNat, Int.reduceLE, Int.reduceEq, Int.reduceLT, Nat.reduceEqDiff, Nat.reduceAdd, zDk, pd_eql, pd_neq, pd_eql0, pd_neq0, hnx]
    rintro v m' (⟨rfl, e9, hdone⟩ | ⟨e, he, rfl, rfl⟩)
    · replace e9 := e9.symm; subst e9
      simp only [zZ, reduceIte, Nat.reduceLT, Int.reduceToNat, Int.reduceLE, Int.reduceEq, Int.reduceLT, Nat.reduceEqDiff, Nat.reduceAdd, zDk, pd_eql, pd_neq, pd_eql0, pd_neq0]
      refine CW_seq (CW_cond false (by rfl) (fun h => by cases h) (fun _ => CW_exit ?_))
      simp only [zZ, reduceIte, Nat.reduceLT, Int.reduceToNat, Int.reduceLE, Int.reduceEq, Int.reduceLT, Nat.reduceEqDiff, Nat.reduceAdd, zDk, pd_eql, pd_neq, pd_eql0, pd_neq0]
      obtain ⟨s', hr2⟩ := hd'.row
      unfold dskC at hr2
      refine CW_seq (CW_region ?_)
      simp only [zZ, reduceIte, Nat.reduceLT, Int.reduceToNat, Int.reduceLE, Int.reduceEq, Int.reduceLT, Nat.reduceEqDiff, Nat.reduceAdd, zDk, pd_eql, pd_neq, pd_eql0, pd_neq0, hr2, clear_dsk hd'.kv]
      refine CW_seq (CW_region ?_)
      simp only [zZ, reduceIte, Nat.reduceLT, Int.reduceToNat, Int.reduceLE, Int.reduceEq, Int.reduceLT, Nat.reduceEqDiff, Nat.reduceAdd, zDk, pd_eql, pd_neq, pd_eql0, pd_neq0]
      refine CW_ret ?_
      simp only [zZ, reduceIte, Nat.reduceLT, Int.reduceToNat, Int.reduceLE, Int.reduceEq, Int.reduceLT, Nat.reduceEqDiff, Nat.reduceAdd, zDk, pd_eql, pd_neq, pd_eql0, pd_neq0, mEnd, sAnswer, sAnswer.sRes]
      subst hD
      have hok := hd1.ok.synced
      have := hd'.kvTurn (L := []) (c := E.clock) (by rw [syncV_all hdone]; exact hok)
      rw [syncV_all hdone] at this
      refine ⟨_, Thin.refl _, rfl, this, ?_, by rw [Mem.size_set, hs', hs2, hs1]; omega⟩
      refine Only.trans (B := M') ?_ (Only.set (by simp) _)
      refine Only.trans (ho1.mono (by simp)) (fun b x hb hbx => ho' b x ?_ (hold2 b x hbx))
      have := get_live hbx
      simp at hb ⊢
      exact ⟨hb.2.2, by omega⟩
    · have hless := aLeft_less he
      obtain ⟨x, hx, rfl, hns⟩ := aLeft_mem he
      obtain ⟨hx1, hx2⟩ := hd1.ok.within x hx
      simp only at hless ⊢
      obtain ⟨M3, hM3⟩ : ∃ M3, M3 = M'.set r (some (.it false q E.clock (seen ++ [x.2.2]) E.clock)) := ⟨_, rfl⟩
      rw [← hM3]
      have hit3 : M3.get r = some (.it false q E.clock (seen ++ [x.2.2]) E.clock) := by rw [hM3]; exact Mem.get_set_same hit' _
      have hd3 : DskAt M3 p q g { E with old := syncV E.old E.last seen } := by rw [hM3]; exact hd'.only (Only.set (l := [r]) (by simp) _) (by simpa using Ne.symm hrp) (by simpa using Ne.symm hrq) (by simpa using Ne.symm hrg)
      obtain ⟨s3, hr3⟩ := hd3.row
      unfold dskC at hr3
      simp only at hr3
      have hent := entry_dsk (get := M3.get) hit3 hd3.kv hd1.ok.born hx
      simp only [zZ, reduceIte, Nat.reduceLT, Int.reduceToNat, Int.reduceLE, Int.reduceEq, Int.reduceLT, Nat.reduceEqDiff, Nat.reduceAdd, zDk, pd_eql, pd_neq, pd_eql0, pd_neq0]
      refine CW_seq (CW_cond true (by rfl) (fun _ => CW_skip ?_) (fun h => by cases h))
      simp only [zZ, reduceIte, Nat.reduceLT, Int.reduceToNat, Int.reduceLE, Int.reduceEq, Int.reduceLT, Nat.reduceEqDiff, Nat.reduceAdd, zDk, pd_eql, pd_neq, pd_eql0, pd_neq0]
      refine CW_block (CW_seq (CW_region ?_))
      simp only [zZ, reduceIte, Nat.reduceLT, Int.reduceToNat, Int.reduceLE, Int.reduceEq, Int.reduceLT, Nat.reduceEqDiff, Nat.reduceAdd, zDk, pd_eql, pd_neq, pd_eql0, pd_neq0, hent]
      have g0 : (0 : Int) ≤ (x.1 : Int) := by omega
      have g1 : (x.1 : Int) < ((syncV E.old E.last seen).length : Int) := by rw [syncV_len]; omega
      have hput : putIn 1 M3 g x.1 [.string (str x.2.1)] (M3.get g) = some (M3.set g (some (.cells false 1 ((syncV E.old E.last (seen ++ [x.2.2])).map fun s => .string (str s))))) := by
        rw [hd3.old]
        simp only [putIn]
        rw [if_pos ⟨rfl, by simp only [List.length_cons, List.length_nil, List.length_map, syncV_len]; omega, rfl⟩]
        rcases syncV_step (old := E.old) (seen := seen) hd1.ok.keys hx with h1 | ⟨y, hy, hne, hyb⟩
        · rw [← h1]
          simp only [setL, List.map_set]
        · exact absurd (nodup_born hd1.ok.born hy hx hyb) hne
      refine CW_region ?_
      simp only [zZ, reduceIte, Nat.reduceLT, Int.reduceToNat, Int.reduceLE, Int.reduceEq, Int.reduceLT, Nat.reduceEqDiff, Nat.reduceAdd, zDk, pd_eql, pd_neq, pd_eql0, pd_neq0, hr3, g0, g1, and_self, hput]
      refine ⟨[0, 18], ?_⟩
      simp only [zZ, reduceIte, Nat.reduceLT, Int.reduceToNat, Int.reduceLE, Int.reduceEq, Int.reduceLT, Nat.reduceEqDiff, Nat.reduceAdd, keepF]
      refine ⟨_, Thin.refl _, _, ⟨seen ++ [x.2.2], rfl, by rw [Mem.get_set_ne (Ne.symm hrg)]; exact hit3, ?_, ?_, ?_⟩, hless⟩
      · exact ⟨⟨by simp only [syncV_len]; exact hd1.ok.n, by simp only [syncV_len]; exact hd1.ok.pos, fun s hs => syncV_size hd1.ok _ hs, hd1.ok.keys, hd1.ok.born, hd1.ok.clock, fun x hx => by simp only [syncV_len]; exact hd1.ok.within x hx, hd1.ok.fuse, trivial⟩, ⟨s3, by rw [Mem.get_set_ne (Ne.symm hd1.pg), hr3]; simp only [dskC, syncV_len]⟩, by rw [Mem.get_set_ne (Ne.symm hd1.qg)]; exact hd3.kv, Mem.get_set_same hd3.old _, hd1.pq, hd1.pg, hd1.qg⟩
      · exact ho'.trans ((by rw [hM3]; exact Only.set (by simp) _ : Only [g, r] M' M3).trans (Only.set (by simp) _))
      · rw [Mem.size_set, hM3, Mem.size_set, hs']
end Go.Proofs.YtmnebimijlnlkaaGreatDoor
namespace Go.Proofs.YtmnebimijlnlkaaGreatDoor
open Go.RowKit Abs
def markE : List UInt8 := [83, 76, 69, 49]
def trim0 (s : List UInt8) : List UInt8 := Lib.trimB s 0
def lastV (s : List UInt8) : Int × Int :=
  if Lib.hasPrefix s markE = true then
    (if (Sha.num ((s.drop 4).take 4) : Int) < 1 ∨ trim0 (s.drop 8) ≠ [] then (0, 2) else ((Sha.num ((s.drop 4).take 4) : Nat), 0))
  else if trim0 s = [] then (0, 0) else (0, 2)
def Dsk.lastE (d : Dsk) (i : Int) : Int × Int := if d.may i = 0 then lastV (d.sector i.toNat) else (0, d.may i)
theorem take_spec (s : ByteArray) (k : Nat) (hk1 : 1 ≤ k) (hk : k ≤ 6) (hs : k ≤ s.size) (hsz : s.size ≤ 140737488355327) (m : Mem) :
    Abs.Spec Tryz.prog 57 [.string s, .int .i64 (k : Nat)] m fun u M => u = .tuple #[.int .i64 (Sha.num (s.data.toList.take k) : Nat), .string (str (s.data.toList.drop k)), .int .i64 0] ∧ M = m := by
  have h := Abs.Spec.of_flat (P := Tryz.prog) (k := 57) (xs := [.string s, .int .i64 (k : Nat)]) (m := m) (v := .tuple #[.int .i64 (Sha.num (s.data.toList.take k) : Nat), .string (s.extract k s.size), .int .i64 0]) (by simp [flat]) rfl (fun w => take_any s k hk1 hk hs hsz w)
  have e : s.extract k s.size = str (s.data.toList.drop k) := by
    rw [← bsub_eq]
    unfold bsub str
    rw [List.take_of_length_le (by rw [List.length_drop, Array.length_toList]; exact Nat.le_refl _)]
  rw [e] at h
  exact h
theorem fixed_spec (n : Int) (k : Nat) (hk1 : 1 ≤ k) (hk : k ≤ 8) (m : Mem) :
    Abs.Spec Tryz.prog 122 [.int .i64 n, .int .i64 (k : Nat)] m fun u M => u = .string (str (Sha.fixed n k)) ∧ M = m :=
  Abs.Spec.of_flat (by simp [flat]) rfl fun w => fixed_any n k hk1 hk w
theorem beq_nilS (l : List UInt8) : beqB (str l) ⟨#[]⟩ = decide (l = []) := by
  show (l == []) = _
  cases l <;> simp
set_option maxRecDepth 100000 in
set_option maxHeartbeats 2000000 in
theorem last_spec (M : Mem) (p q g : Nat) (d : Dsk) (hd : DskAt M p q g d) (i : Int) :
    Abs.Spec Tryz.prog 52 [dp p, .int .i64 i] M fun u M' => u = .tuple #[.int .i64 (d.lastE i).1, .int .i64 (d.lastE i).2] ∧ M' = M := by
  refine Abs.Spec.walkM Tryz.func52 (by rfl) _ Tryz.results52 _ Tryz.ntmps52 (by simp [dp]) ?_
  intro hc hx k
  obtain ⟨E, hE⟩ : ∃ E, E = d.lastE i := ⟨_, rfl⟩
  rw [← hE]
  unfold Dsk.lastE at hE
  refine CW_seq (CW_region ?_)
  simp only [zZ, reduceIte, Nat.reduceLT, Int.reduceToNat, Int.reduceLE, Int.reduceEq, Int.reduceLT, Nat.reduceEqDiff, Nat.reduceAdd, zDk, pd_eql, pd_neq, pd_eql0, pd_neq0]
  refine CW_seq (CW_region ?_)
  simp only [zZ, reduceIte, Nat.reduceLT, Int.reduceToNat, Int.reduceLE, Int.reduceEq, Int.reduceLT, Nat.reduceEqDiff, Nat.reduceAdd, zDk, pd_eql, pd_neq, pd_eql0, pd_neq0]
  refine ⟨by kernel_rfl, _, read_spec M p q g d hd i, ?_⟩
  rintro _ M9 ⟨rfl, e9⟩; replace e9 := e9.symm; subst e9
  simp only [zZ, reduceIte, Nat.reduceLT, Int.reduceToNat, Int.reduceLE, Int.reduceEq, Int.reduceLT, Nat.reduceEqDiff, Nat.reduceAdd, zDk, pd_eql, pd_neq, pd_eql0, pd_neq0]
  unfold Dsk.read
  refine CW_seq (CW_seq (CW_region ?_))
  simp only [zZ, reduceIte, Nat.reduceLT, Int.reduceToNat, Int.reduceLE, Int.reduceEq, Int.reduceLT, Nat.reduceEqDiff, Nat.reduceAdd, zDk, pd_eql, pd_neq, pd_eql0, pd_neq0]
  by_cases hm : d.may i = 0
  · rw [if_pos hm] at hE ⊢
    have hlen : (d.sector i.toNat).length = 256 := by
      refine hd.ok.sector ?_
      have := hm
      unfold Dsk.may at this
      have hp := hd.ok.pos
      split at this
      · cases this
      · split at this
        · cases this
        · omega
    obtain ⟨s, hs⟩ : ∃ s, s = d.sector i.toNat := ⟨_, rfl⟩
    rw [← hs] at hE hlen ⊢
    simp only
    refine CW_cond false (by rfl) (fun h => by cases h) (fun _ => CW_skip ?_)
    simp only [zZ, reduceIte, Nat.reduceLT, Int.reduceToNat, Int.reduceLE, Int.reduceEq, Int.reduceLT, Nat.reduceEqDiff, Nat.reduceAdd, zDk, pd_eql, pd_neq, pd_eql0, pd_neq0]
    refine CW_seq (CW_region ?_)
    simp only [zZ, reduceIte, Nat.reduceLT, Int.reduceToNat, Int.reduceLE, Int.reduceEq, Int.reduceLT, Nat.reduceEqDiff, Nat.reduceAdd, zDk, pd_eql, pd_neq, pd_eql0, pd_neq0]
    refine ⟨by kernel_rfl, _, cutPrefix_spec (str s) (str markE) _, ?_⟩
    rintro _ M9 ⟨rfl, e9⟩; replace e9 := e9.symm; subst e9
    simp only [zZ, reduceIte, Nat.reduceLT, Int.reduceToNat, Int.reduceLE, Int.reduceEq, Int.reduceLT, Nat.reduceEqDiff, Nat.reduceAdd, zDk, pd_eql, pd_neq, pd_eql0, pd_neq0]
    have e1 : (str s).data.toList = s := rfl
    have e2 : (str markE).data.toList = markE := rfl
    rw [e1, e2]
    unfold lastV at hE
    refine CW_seq (CW_seq (CW_region ?_))
    simp only [zZ, reduceIte, Nat.reduceLT, Int.reduceToNat, Int.reduceLE, Int.reduceEq, Int.reduceLT, Nat.reduceEqDiff, Nat.reduceAdd, zDk, pd_eql, pd_neq, pd_eql0, pd_neq0]
    cases hpre : Lib.hasPrefix s markE
    · rw [hpre, if_neg (by simp)] at hE
      refine CW_cond true (by rfl) (fun _ => CW_seq (CW_seq (CW_region ?_))) (fun h => by cases h)
      simp only [zZ, reduceIte, Nat.reduceLT, Int.reduceToNat, Int.reduceLE, Int.reduceEq, Int.reduceLT, Nat.reduceEqDiff, Nat.reduceAdd, zDk, pd_eql, pd_neq, pd_eql0, pd_neq0]
      refine ⟨by kernel_rfl, _, trim_spec (str s) 0 (by decide) (by show s.length ≤ _; omega) _, ?_⟩
      rintro _ M9 ⟨rfl, e9⟩; replace e9 := e9.symm; subst e9
      rw [e1]
      simp only [zZ, reduceIte, Nat.reduceLT, Int.reduceToNat, Int.reduceLE, Int.reduceEq, Int.reduceLT, Nat.reduceEqDiff, Nat.reduceAdd, zDk, pd_eql, pd_neq, pd_eql0, pd_neq0, beq_nilS]
      refine CW_cond (decide (Lib.trimB s 0 = [])) (by rfl) (fun h => CW_seq (CW_region ?_)) (fun h => CW_skip ?_)
      · have h := of_decide_eq_true h
        simp only [zZ, reduceIte, Nat.reduceLT, Int.reduceToNat, Int.reduceLE, Int.reduceEq, Int.reduceLT, Nat.reduceEqDiff, Nat.reduceAdd, zDk, pd_eql, pd_neq, pd_eql0, pd_neq0]
        refine CW_ret ?_
        simp only [zZ, reduceIte, Nat.reduceLT, Int.reduceToNat, Int.reduceLE, Int.reduceEq, Int.reduceLT, Nat.reduceEqDiff, Nat.reduceAdd, zDk, pd_eql, pd_neq, pd_eql0, pd_neq0, mEnd, sAnswer, sAnswer.sRes]
        rw [if_pos (show trim0 s = [] from h)] at hE
        subst hE
        exact ⟨_, Thin.refl _, rfl, rfl⟩
      · have h := of_decide_eq_false h
        simp only [zZ, reduceIte, Nat.reduceLT, Int.reduceToNat, Int.reduceLE, Int.reduceEq, Int.reduceLT, Nat.reduceEqDiff, Nat.reduceAdd, zDk, pd_eql, pd_neq, pd_eql0, pd_neq0]
        refine CW_seq (CW_region ?_)
        simp only [zZ, reduceIte, Nat.reduceLT, Int.reduceToNat, Int.reduceLE, Int.reduceEq, Int.reduceLT, Nat.reduceEqDiff, Nat.reduceAdd, zDk, pd_eql, pd_neq, pd_eql0, pd_neq0]
        refine CW_ret ?_
        simp only [zZ, reduceIte, Nat.reduceLT, Int.reduceToNat, Int.reduceLE, Int.reduceEq, Int.reduceLT, Nat.reduceEqDiff, Nat.reduceAdd, zDk, pd_eql, pd_neq, pd_eql0, pd_neq0, mEnd, sAnswer, sAnswer.sRes]
        rw [if_neg (show ¬ trim0 s = [] from h)] at hE
        subst hE
        exact ⟨_, Thin.refl _, rfl, rfl⟩
    · rw [hpre, if_pos rfl] at hE
      refine CW_cond false (by rfl) (fun h => by cases h) (fun _ => CW_skip ?_)
      simp only [zZ, reduceIte, Nat.reduceLT, Int.reduceToNat, Int.reduceLE, Int.reduceEq, Int.reduceLT, Nat.reduceEqDiff, Nat.reduceAdd, zDk, pd_eql, pd_neq, pd_eql0, pd_neq0]
      have htp : Lib.trimPrefix s markE = s.drop 4 := by unfold Lib.trimPrefix; rw [if_pos hpre]; rfl
      rw [htp]
      refine CW_seq (CW_region ?_)
      simp only [zZ, reduceIte, Nat.reduceLT, Int.reduceToNat, Int.reduceLE, Int.reduceEq, Int.reduceLT, Nat.reduceEqDiff, Nat.reduceAdd, zDk, pd_eql, pd_neq, pd_eql0, pd_neq0]
      refine ⟨by kernel_rfl, _, take_spec (str (s.drop 4)) 4 (by omega) (by omega) (by show 4 ≤ (s.drop 4).length; simp; omega) (by show (s.drop 4).length ≤ _; simp; omega) _, ?_⟩
      rintro _ M9 ⟨rfl, e9⟩; replace e9 := e9.symm; subst e9
      have e3 : (str (s.drop 4)).data.toList = s.drop 4 := rfl
      rw [e3, List.drop_drop]
      obtain ⟨n, hn⟩ : ∃ n, n = Sha.num ((s.drop 4).take 4) := ⟨_, rfl⟩
      rw [← hn] at hE ⊢
      simp only [zZ, reduceIte, Nat.reduceLT, Int.reduceToNat, Int.reduceLE, Int.reduceEq, Int.reduceLT, Nat.reduceEqDiff, Nat.reduceAdd, zDk, pd_eql, pd_neq, pd_eql0, pd_neq0, Nat.reduceAdd]
      refine CW_seq (CW_seq (CW_region ?_))
      have e4 : (str (s.drop 8)).data.toList = s.drop 8 := rfl
      have fin : ∀ b : Bool, (b = true ↔ ((n : Int) < 1 ∨ trim0 (s.drop 8) ≠ [])) → E = if b = true then (0, 2) else ((n : Int), 0) := fun b hb => by
        rw [hE]
        by_cases h : (n : Int) < 1 ∨ trim0 (s.drop 8) ≠ []
        · rw [if_pos h, if_pos (hb.2 h)]
        · rw [if_neg h, if_neg (fun q => h (hb.1 q))]
      have tail : ∀ b : Bool, (b = true ↔ ((n : Int) < 1 ∨ trim0 (s.drop 8) ≠ [])) → True := fun _ _ => trivial
      cases q1 : decide ((n : Int) < 1)
      · have q1' := of_decide_eq_false q1
        simp only [zZ, reduceIte, Nat.reduceLT, Int.reduceToNat, Int.reduceLE, Int.reduceEq, Int.reduceLT, Nat.reduceEqDiff, Nat.reduceAdd, zDk, pd_eql, pd_neq, pd_eql0, pd_neq0, q1]
        refine ⟨by kernel_rfl, _, trim_spec (str (s.drop 8)) 0 (by decide) (by show (s.drop 8).length ≤ _; simp; omega) _, ?_⟩
        rintro _ M9 ⟨rfl, e9⟩; replace e9 := e9.symm; subst e9
        rw [e4]
        simp only [zZ, reduceIte, Nat.reduceLT, Int.reduceToNat, Int.reduceLE, Int.reduceEq, Int.reduceLT, Nat.reduceEqDiff, Nat.reduceAdd, zDk, pd_eql, pd_neq, pd_eql0, pd_neq0, bne, beq_nilS, q1]
        refine CW_cond (!decide (Lib.trimB (s.drop 8) 0 = [])) (by rfl) (fun h => CW_seq (CW_region ?_)) (fun h => CW_skip ?_)
        · simp only [zZ, reduceIte, Nat.reduceLT, Int.reduceToNat, Int.reduceLE, Int.reduceEq, Int.reduceLT, Nat.reduceEqDiff, Nat.reduceAdd, zDk, pd_eql, pd_neq, pd_eql0, pd_neq0]
          refine CW_ret ?_
          simp only [zZ, reduceIte, Nat.reduceLT, Int.reduceToNat, Int.reduceLE, Int.reduceEq, Int.reduceLT, Nat.reduceEqDiff, Nat.reduceAdd, zDk, pd_eql, pd_neq, pd_eql0, pd_neq0, mEnd, sAnswer, sAnswer.sRes]
          have := fin true (by simpa using .inr (by simpa [trim0] using h))
          subst this
          exact ⟨_, Thin.refl _, rfl, rfl⟩
        · simp only [zZ, reduceIte, Nat.reduceLT, Int.reduceToNat, Int.reduceLE, Int.reduceEq, Int.reduceLT, Nat.reduceEqDiff, Nat.reduceAdd, zDk, pd_eql, pd_neq, pd_eql0, pd_neq0]
          refine CW_seq (CW_region ?_)
          simp only [zZ, reduceIte, Nat.reduceLT, Int.reduceToNat, Int.reduceLE, Int.reduceEq, Int.reduceLT, Nat.reduceEqDiff, Nat.reduceAdd, zDk, pd_eql, pd_neq, pd_eql0, pd_neq0]
          refine CW_ret ?_
          simp only [zZ, reduceIte, Nat.reduceLT, Int.reduceToNat, Int.reduceLE, Int.reduceEq, Int.reduceLT, Nat.reduceEqDiff, Nat.reduceAdd, zDk, pd_eql, pd_neq, pd_eql0, pd_neq0, mEnd, sAnswer, sAnswer.sRes]
          have := fin false (by
            have h : trim0 (s.drop 8) = [] := by simpa [trim0] using h
            simp [h]; omega)
          subst this
          exact ⟨_, Thin.refl _, rfl, rfl⟩
      · have q1' := of_decide_eq_true q1
        simp only [zZ, reduceIte, Nat.reduceLT, Int.reduceToNat, Int.reduceLE, Int.reduceEq, Int.reduceLT, Nat.reduceEqDiff, Nat.reduceAdd, zDk, pd_eql, pd_neq, pd_eql0, pd_neq0, q1]
        refine CW_cond true (by rfl) (fun _ => CW_seq (CW_region ?_)) (fun h => by cases h)
        simp only [zZ, reduceIte, Nat.reduceLT, Int.reduceToNat, Int.reduceLE, Int.reduceEq, Int.reduceLT, Nat.reduceEqDiff, Nat.reduceAdd, zDk, pd_eql, pd_neq, pd_eql0, pd_neq0]
        refine CW_ret ?_
        simp only [zZ, reduceIte, Nat.reduceLT, Int.reduceToNat, Int.reduceLE, Int.reduceEq, Int.reduceLT, Nat.reduceEqDiff, Nat.reduceAdd, zDk, pd_eql, pd_neq, pd_eql0, pd_neq0, mEnd, sAnswer, sAnswer.sRes]
        have := fin true (by simpa using .inl q1')
        subst this
        exact ⟨_, Thin.refl _, rfl, rfl⟩
  · rw [if_neg hm] at hE ⊢
    refine CW_cond true (by simp only; simp [hm, AL.look, AL.get]) (fun _ => CW_seq (CW_region ?_)) (fun h => by cases h)
    simp only [zZ, reduceIte, Nat.reduceLT, Int.reduceToNat, Int.reduceLE, Int.reduceEq, Int.reduceLT, Nat.reduceEqDiff, Nat.reduceAdd, zDk, pd_eql, pd_neq, pd_eql0, pd_neq0]
    refine CW_ret ?_
    simp only [zZ, reduceIte, Nat.reduceLT, Int.reduceToNat, Int.reduceLE, Int.reduceEq, Int.reduceLT, Nat.reduceEqDiff, Nat.reduceAdd, zDk, pd_eql, pd_neq, pd_eql0, pd_neq0, mEnd, sAnswer, sAnswer.sRes]
    subst hE
    exact ⟨_, Thin.refl _, rfl, rfl⟩
end Go.Proofs.YtmnebimijlnlkaaGreatDoor
namespace Go.Proofs.YtmnebimijlnlkaaGreatDoor
open Go.RowKit Abs
theorem keys_spec (secret salt : ByteArray) (h1 : secret.size ≤ 140737488355000) (h2 : salt.size ≤ 140737488355000) (m : Mem) :
    Abs.Spec Tryz.prog 25 [.string secret, .string salt] m fun u M => u = keysV secret.data.toList salt.data.toList ∧ M = m :=
  Abs.Spec.of_flat (by simp [flat]) rfl fun w => keys_any secret salt w h1 h2
def zeroExt : List Value := [.int .i64 0, .string ⟨#[]⟩, .int .i64 0, .int .i64 0, .int .i64 0, .string ⟨#[]⟩, .string ⟨#[]⟩, .int .i64 0]
def zeroRec : List Value := zeroExt ++ [.int .i64 0, .int .u64 0, .int .u64 0, .int .u64 0, .int .u64 0]
theorem bd_Ext0 : aBuild Tryz.prog 75 [] = some (.agg zeroExt.toArray) := by kernel_rfl
theorem bd_Rec0 : aBuild Tryz.prog 85 [] = some (.agg zeroRec.toArray) := by kernel_rfl
theorem Only.setNew {M M1 : Mem} (h : Only [] M M1) {k : Nat} (hk : M.size ≤ k) (o : Option Blk) : Only [] M (M1.set k o) := fun b x hb hx => by
  rw [Mem.get_set_ne (by have := get_live hx; omega)]
  exact h b x hb hx
theorem trim_zero : trim0 (List.replicate 256 0) = [] := by decide +kernel
set_option maxRecDepth 100000 in
set_option maxHeartbeats 2000000 in
theorem ctake_blank (M : Mem) (s : List UInt8) (hs : s.length = 256) (h0 : trim0 s = []) :
    Abs.Spec Tryz.prog 27 [.string (str s)] M fun u M' => u = .tuple #[.agg zeroExt.toArray, .int .i64 8] ∧ Only [] M M' ∧ M.size ≤ M'.size := by
  refine Abs.Spec.walkM Tryz.func27 (by rfl) _ Tryz.results27 _ Tryz.ntmps27 (by simp) ?_
  intro hc hx k
  have hal : nAlloc Tryz.prog 75 = some (.cells false (aStride Tryz.prog 75) zeroExt) := al_Ext
  generalize aStride Tryz.prog 75 = s1 at hal
  have e1 : (str s).data.toList = s := rfl
  refine CW_seq (CW_region ?_)
  simp only [zZ, reduceIte, Nat.reduceLT, Int.reduceToNat, Int.reduceLE, Int.reduceEq, Int.reduceLT, Nat.reduceEqDiff, Nat.reduceAdd, zDk, pd_eql, pd_neq, pd_eql0, pd_neq0, hal]
  obtain ⟨M1, hM1⟩ : ∃ M1, M1 = M.push (.cells false s1 zeroExt) := ⟨_, rfl⟩
  have hg1 : M1.get M.size = some (.cells false s1 zeroExt) := by rw [hM1, Mem.get_push_new]
  have ho1 : Only [] M M1 := by rw [hM1]; exact Only.push _ _ _
  have hs1 : M1.size = M.size + 1 := by rw [hM1, Mem.size_push]
  rw [← hM1]
  clear hM1
  refine CW_seq (CW_region ?_)
  simp only [zZ, reduceIte, Nat.reduceLT, Int.reduceToNat, Int.reduceLE, Int.reduceEq, Int.reduceLT, Nat.reduceEqDiff, Nat.reduceAdd, zDk, pd_eql, pd_neq, pd_eql0, pd_neq0]
  refine ⟨by kernel_rfl, _, cutPrefix_spec (str s) _ _, ?_⟩
  rintro _ M9 ⟨rfl, e9⟩; replace e9 := e9.symm; subst e9
  simp only [zZ, reduceIte, Nat.reduceLT, Int.reduceToNat, Int.reduceLE, Int.reduceEq, Int.reduceLT, Nat.reduceEqDiff, Nat.reduceAdd, zDk, pd_eql, pd_neq, pd_eql0, pd_neq0]
  refine CW_seq (CW_block (CW_seq (CW_region ?_)))
  simp only [zZ, reduceIte, Nat.reduceLT, Int.reduceToNat, Int.reduceLE, Int.reduceEq, Int.reduceLT, Nat.reduceEqDiff, Nat.reduceAdd, zDk, pd_eql, pd_neq, pd_eql0, pd_neq0]
  refine ⟨by kernel_rfl, _, trim_spec (str s) 0 (by decide) (by show s.length ≤ _; omega) _, ?_⟩
  rintro _ M9 ⟨rfl, e9⟩; replace e9 := e9.symm; subst e9
  have h0' : Lib.trimB (str s).data.toList 0 = [] := h0
  rw [h0']
  simp only [zZ, reduceIte, Nat.reduceLT, Int.reduceToNat, Int.reduceLE, Int.reduceEq, Int.reduceLT, Nat.reduceEqDiff, Nat.reduceAdd, zDk, pd_eql, pd_neq, pd_eql0, pd_neq0, beq_nilS]
  refine CW_cond true (by rfl) (fun _ => CW_seq (CW_region ?_)) (fun h => by cases h)
  have hput : putIn 8 M1 M.size 0 zeroExt (M1.get M.size) = some (M1.set M.size (some (.cells false s1 zeroExt))) := by rw [hg1]; rfl
  have hgs : (M1.set M.size (some (.cells false s1 zeroExt))).get M.size = some (.cells false s1 zeroExt) := Mem.get_set_same hg1 _
  have hrow : rowIn 8 0 (some (.cells false s1 zeroExt)) = some (.agg zeroExt.toArray) := rfl
  simp only [zZ, reduceIte, Nat.reduceLT, Int.reduceToNat, Int.reduceLE, Int.reduceEq, Int.reduceLT, Nat.reduceEqDiff, Nat.reduceAdd, zDk, pd_eql, pd_neq, pd_eql0, pd_neq0, bd_Ext0, agg_cells, hput]
  refine CW_ret ?_
  simp only [zZ, reduceIte, Nat.reduceLT, Int.reduceToNat, Int.reduceLE, Int.reduceEq, Int.reduceLT, Nat.reduceEqDiff, Nat.reduceAdd, zDk, pd_eql, pd_neq, pd_eql0, pd_neq0, mEnd, sAnswer, sAnswer.sRes, aLoad_g, hgs, hrow]
  exact ⟨_, Thin.refl _, ho1.setNew (Nat.le_refl _) _, by rw [Mem.size_set, hs1]; omega⟩
theorem jblank_spec (M : Mem) (s : List UInt8) (hs : s.length ≤ 1000000) :
    Abs.Spec Tryz.prog 61 [.string (str s)] M fun u M' => u = .bool (decide (trim0 s = [])) ∧ M' = M := by
  refine Abs.Spec.walkM Tryz.func61 (by rfl) _ Tryz.results61 _ Tryz.ntmps61 (by simp) ?_
  intro hc hx k
  refine CW_seq (CW_region ?_)
  simp only [zZ, reduceIte, Nat.reduceLT, Int.reduceToNat, Int.reduceLE, Int.reduceEq, Int.reduceLT, Nat.reduceEqDiff, Nat.reduceAdd, zDk, pd_eql, pd_neq, pd_eql0, pd_neq0]
  refine CW_seq (CW_region ?_)
  simp only [zZ, reduceIte, Nat.reduceLT, Int.reduceToNat, Int.reduceLE, Int.reduceEq, Int.reduceLT, Nat.reduceEqDiff, Nat.reduceAdd, zDk, pd_eql, pd_neq, pd_eql0, pd_neq0]
  refine ⟨by kernel_rfl, _, trim_spec (str s) 0 (by decide) (by show s.length ≤ _; omega) _, ?_⟩
  rintro _ M9 ⟨rfl, e9⟩; replace e9 := e9.symm; subst e9
  simp only [zZ, reduceIte, Nat.reduceLT, Int.reduceToNat, Int.reduceLE, Int.reduceEq, Int.reduceLT, Nat.reduceEqDiff, Nat.reduceAdd, zDk, pd_eql, pd_neq, pd_eql0, pd_neq0, beq_nilS]
  refine CW_ret ?_
  simp only [zZ, reduceIte, Nat.reduceLT, Int.reduceToNat, Int.reduceLE, Int.reduceEq, Int.reduceLT, Nat.reduceEqDiff, Nat.reduceAdd, zDk, pd_eql, pd_neq, pd_eql0, pd_neq0, mEnd, sAnswer, sAnswer.sRes]
  exact ⟨_, Thin.refl _, rfl, rfl⟩
set_option maxRecDepth 100000 in
set_option maxHeartbeats 2000000 in
theorem jtake_blank (M : Mem) (s : List UInt8) (hs : s.length = 256) (h0 : trim0 s = []) :
    Abs.Spec Tryz.prog 31 [.string (str s)] M fun u M' => u = .tuple #[.agg zeroRec.toArray, .int .i64 8] ∧ Only [] M M' ∧ M.size ≤ M'.size := by
  refine Abs.Spec.walkM Tryz.func31 (by rfl) _ Tryz.results31 _ Tryz.ntmps31 (by simp) ?_
  intro hc hx k
  have hal : nAlloc Tryz.prog 85 = some (.cells false (aStride Tryz.prog 85) zeroRec) := al_Rec
  generalize aStride Tryz.prog 85 = s1 at hal
  refine CW_seq (CW_region ?_)
  simp only [zZ, reduceIte, Nat.reduceLT, Int.reduceToNat, Int.reduceLE, Int.reduceEq, Int.reduceLT, Nat.reduceEqDiff, Nat.reduceAdd, zDk, pd_eql, pd_neq, pd_eql0, pd_neq0, hal]
  obtain ⟨M1, hM1⟩ : ∃ M1, M1 = M.push (.cells false s1 zeroRec) := ⟨_, rfl⟩
  have hg1 : M1.get M.size = some (.cells false s1 zeroRec) := by rw [hM1, Mem.get_push_new]
  have ho1 : Only [] M M1 := by rw [hM1]; exact Only.push _ _ _
  have hs1 : M1.size = M.size + 1 := by rw [hM1, Mem.size_push]
  rw [← hM1]
  clear hM1
  refine CW_seq (CW_block (CW_seq (CW_region ?_)))
  simp only [zZ, reduceIte, Nat.reduceLT, Int.reduceToNat, Int.reduceLE, Int.reduceEq, Int.reduceLT, Nat.reduceEqDiff, Nat.reduceAdd, zDk, pd_eql, pd_neq, pd_eql0, pd_neq0]
  refine ⟨by kernel_rfl, _, jblank_spec _ s (by omega), ?_⟩
  rintro _ M9 ⟨rfl, e9⟩; replace e9 := e9.symm; subst e9
  rw [h0]
  simp only [zZ, reduceIte, Nat.reduceLT, Int.reduceToNat, Int.reduceLE, Int.reduceEq, Int.reduceLT, Nat.reduceEqDiff, Nat.reduceAdd, zDk, pd_eql, pd_neq, pd_eql0, pd_neq0]
  refine CW_cond true (by rfl) (fun _ => CW_seq (CW_region ?_)) (fun h => by cases h)
  have hput : putIn 13 M1 M.size 0 zeroRec (M1.get M.size) = some (M1.set M.size (some (.cells false s1 zeroRec))) := by rw [hg1]; rfl
  have hgs : (M1.set M.size (some (.cells false s1 zeroRec))).get M.size = some (.cells false s1 zeroRec) := Mem.get_set_same hg1 _
  have hrow : rowIn 13 0 (some (.cells false s1 zeroRec)) = some (.agg zeroRec.toArray) := rfl
  simp only [zZ, reduceIte, Nat.reduceLT, Int.reduceToNat, Int.reduceLE, Int.reduceEq, Int.reduceLT, Nat.reduceEqDiff, Nat.reduceAdd, zDk, pd_eql, pd_neq, pd_eql0, pd_neq0, bd_Rec0, agg_cells, hput]
  refine CW_ret ?_
  simp only [zZ, reduceIte, Nat.reduceLT, Int.reduceToNat, Int.reduceLE, Int.reduceEq, Int.reduceLT, Nat.reduceEqDiff, Nat.reduceAdd, zDk, pd_eql, pd_neq, pd_eql0, pd_neq0, mEnd, sAnswer, sAnswer.sRes, aLoad_g, hgs, hrow]
  exact ⟨_, Thin.refl _, ho1.setNew (Nat.le_refl _) _, by rw [Mem.size_set, hs1]; omega⟩
end Go.Proofs.YtmnebimijlnlkaaGreatDoor
namespace Go.Proofs.YtmnebimijlnlkaaGreatDoor
open Go.RowKit Abs
structure BlankD (d : Dsk) (e : Int) : Prop where
  ok : d.Ok
  live : d.dead = false
  zeros : ∀ i, 1 ≤ i → i < d.old.length → d.sector i = List.replicate 256 0
  epoch : d.lastE 0 = (e, 0)
  pos : 0 ≤ e ∧ e ≤ 4294967295
theorem BlankD.may {d : Dsk} {e : Int} (h : BlankD d e) {i : Nat} (hi : i < d.old.length) : d.may (i : Int) = 0 := by
  unfold Dsk.may
  rw [if_neg (by rw [h.live]; simp), if_neg (by omega)]
theorem BlankD.trim {d : Dsk} {e : Int} (h : BlankD d e) {i : Nat} (h1 : 1 ≤ i) (hi : i < d.old.length) : (d.sector i).length = 256 ∧ trim0 (d.sector i) = [] := by
  rw [h.zeros i h1 hi]; exact ⟨List.length_replicate, trim_zero⟩
def scnC (p gl n : Nat) (key : ByteArray) : List Value := [dp p, .string key, .slice (some ⟨gl, 0, none⟩) n n, .slice none 0 0, .slice none 0 0]
structure ScnAt (M : Mem) (sp p gl n : Nat) (key : ByteArray) (secs : List Value) : Prop where
  row : ∃ s, M.get sp = some (.cells false s (scnC p gl n key))
  l : M.get gl = some (.cells false 3 secs)
  len : secs.length = n * 3
  ne : sp ≠ gl
theorem ScnAt.same {M M' : Mem} {sp p gl n : Nat} {key : ByteArray} {secs : List Value} (h : ScnAt M sp p gl n key secs) {l : List Nat} (hs : Only l M M') (h1 : sp ∉ l) (h2 : gl ∉ l) : ScnAt M' sp p gl n key secs :=
  ⟨h.row.imp fun _ hr => hs _ _ h1 hr, hs _ _ h2 h.l, h.len, h.ne⟩
set_option maxRecDepth 100000 in
set_option maxHeartbeats 2000000 in
theorem sread_spec (M : Mem) (sp p q g gl n : Nat) (key : ByteArray) (secs : List Value) (d : Dsk) (hd : DskAt M p q g d) (hs : ScnAt M sp p gl n key secs) (i : Int) (hm : d.may i = 0) :
    Abs.Spec Tryz.prog 28 [dp sp, .int .i64 i] M fun u M' => u = .string (str (d.sector i.toNat)) ∧ M' = M := by
  refine Abs.Spec.walkM Tryz.func28 (by rfl) _ Tryz.results28 _ Tryz.ntmps28 (by simp [dp]) ?_
  intro hc hx k
  obtain ⟨s, hr⟩ := hs.row
  unfold scnC at hr
  have hdp : dp sp = .pointer (some ⟨sp, 0, none⟩) := rfl
  have hrd : d.read i = (d.sector i.toNat, 0) := by unfold Dsk.read; rw [if_pos hm]
  refine CW_seq (CW_region ?_)
  simp only [zZ, reduceIte, Nat.reduceLT, Int.reduceToNat, Int.reduceLE, Int.reduceEq, Int.reduceLT, Nat.reduceEqDiff, Nat.reduceAdd, zDk, pd_eql, pd_neq, pd_eql0, pd_neq0]
  refine CW_seq (CW_region ?_)
  simp only [zZ, reduceIte, Nat.reduceLT, Int.reduceToNat, Int.reduceLE, Int.reduceEq, Int.reduceLT, Nat.reduceEqDiff, Nat.reduceAdd, zDk, pd_eql, pd_neq, pd_eql0, pd_neq0, hdp, hr]
  refine ⟨by kernel_rfl, _, read_spec M p q g d hd i, ?_⟩
  rintro _ M9 ⟨rfl, e9⟩; replace e9 := e9.symm; subst e9
  rw [hrd]
  simp only [zZ, reduceIte, Nat.reduceLT, Int.reduceToNat, Int.reduceLE, Int.reduceEq, Int.reduceLT, Nat.reduceEqDiff, Nat.reduceAdd, zDk, pd_eql, pd_neq, pd_eql0, pd_neq0]
  refine CW_seq (CW_seq (CW_region ?_))
  simp only [zZ, reduceIte, Nat.reduceLT, Int.reduceToNat, Int.reduceLE, Int.reduceEq, Int.reduceLT, Nat.reduceEqDiff, Nat.reduceAdd, zDk, pd_eql, pd_neq, pd_eql0, pd_neq0]
  refine CW_cond false (by rfl) (fun h => by cases h) (fun _ => CW_skip ?_)
  simp only [zZ, reduceIte, Nat.reduceLT, Int.reduceToNat, Int.reduceLE, Int.reduceEq, Int.reduceLT, Nat.reduceEqDiff, Nat.reduceAdd, zDk, pd_eql, pd_neq, pd_eql0, pd_neq0]
  refine CW_seq (CW_region ?_)
  simp only [zZ, reduceIte, Nat.reduceLT, Int.reduceToNat, Int.reduceLE, Int.reduceEq, Int.reduceLT, Nat.reduceEqDiff, Nat.reduceAdd, zDk, pd_eql, pd_neq, pd_eql0, pd_neq0]
  refine CW_ret ?_
  simp only [zZ, reduceIte, Nat.reduceLT, Int.reduceToNat, Int.reduceLE, Int.reduceEq, Int.reduceLT, Nat.reduceEqDiff, Nat.reduceAdd, zDk, pd_eql, pd_neq, pd_eql0, pd_neq0, mEnd, sAnswer, sAnswer.sRes]
  exact ⟨_, Thin.refl _, rfl⟩
set_option maxRecDepth 100000 in
set_option maxHeartbeats 2000000 in
theorem splace_none (M : Mem) (sp : Nat) (i kind : Int) (xs : List Value) (hx0 : oneAll xs = true) :
    Abs.Spec Tryz.prog 29 [dp sp, .int .i64 i, .int .i64 kind, .agg xs.toArray, .int .i64 8] M fun u M' => u = .bool false ∧ Only [] M M' ∧ M.size ≤ M'.size := by
  refine Abs.Spec.walkM Tryz.func29 (by rfl) _ Tryz.results29 _ Tryz.ntmps29 (by simp [dp]) ?_
  intro hc hx k
  have hbx : nBox Tryz.prog 75 (.agg xs.toArray) = some (.cells false (aStride Tryz.prog 75) xs) := bx_Ext xs.toArray hx0
  generalize aStride Tryz.prog 75 = s1 at hbx
  refine CW_seq (CW_region ?_)
  simp only [zZ, reduceIte, Nat.reduceLT, Int.reduceToNat, Int.reduceLE, Int.reduceEq, Int.reduceLT, Nat.reduceEqDiff, Nat.reduceAdd, zDk, pd_eql, pd_neq, pd_eql0, pd_neq0, hbx]
  refine CW_seq (CW_seq (CW_region ?_))
  simp only [zZ, reduceIte, Nat.reduceLT, Int.reduceToNat, Int.reduceLE, Int.reduceEq, Int.reduceLT, Nat.reduceEqDiff, Nat.reduceAdd, zDk, pd_eql, pd_neq, pd_eql0, pd_neq0]
  refine CW_cond true (by rfl) (fun _ => CW_seq (CW_region ?_)) (fun h => by cases h)
  simp only [zZ, reduceIte, Nat.reduceLT, Int.reduceToNat, Int.reduceLE, Int.reduceEq, Int.reduceLT, Nat.reduceEqDiff, Nat.reduceAdd, zDk, pd_eql, pd_neq, pd_eql0, pd_neq0]
  refine CW_ret ?_
  simp only [zZ, reduceIte, Nat.reduceLT, Int.reduceToNat, Int.reduceLE, Int.reduceEq, Int.reduceLT, Nat.reduceEqDiff, Nat.reduceAdd, zDk, pd_eql, pd_neq, pd_eql0, pd_neq0, mEnd, sAnswer, sAnswer.sRes]
  exact ⟨_, Thin.refl _, Only.push _ _ _, by rw [Mem.size_push]; omega⟩
set_option maxRecDepth 100000 in
set_option maxHeartbeats 2000000 in
theorem sepoch_spec (M : Mem) (sp p q g gl n : Nat) (key : ByteArray) (secs : List Value) (d : Dsk) (e : Int) (hb : BlankD d e) (hd : DskAt M p q g d) (hs : ScnAt M sp p gl n key secs) (hn : 0 < n) :
    Abs.Spec Tryz.prog 26 [dp sp] M fun u M' => ScnAt M' sp p gl n key (if 0 < e then setL secs 0 [.int .i64 1, .int .i64 0, .int .i64 e] else secs) ∧ Only [gl] M M' ∧ M'.size = M.size := by
  refine Abs.Spec.walkM Tryz.func26 (by rfl) _ Tryz.results26 _ Tryz.ntmps26 (by simp [dp]) ?_
  intro hc hx k
  obtain ⟨s, hr⟩ := hs.row
  unfold scnC at hr
  have hdp : dp sp = .pointer (some ⟨sp, 0, none⟩) := rfl
  refine CW_seq (CW_region ?_)
  simp only [zZ, reduceIte, Nat.reduceLT, Int.reduceToNat, Int.reduceLE, Int.reduceEq, Int.reduceLT, Nat.reduceEqDiff, Nat.reduceAdd, zDk, pd_eql, pd_neq, pd_eql0, pd_neq0, hdp, hr]
  refine ⟨by kernel_rfl, _, last_spec M p q g d hd 0, ?_⟩
  rintro _ M9 ⟨rfl, e9⟩; replace e9 := e9.symm; subst e9
  rw [hb.epoch]
  simp only [zZ, reduceIte, Nat.reduceLT, Int.reduceToNat, Int.reduceLE, Int.reduceEq, Int.reduceLT, Nat.reduceEqDiff, Nat.reduceAdd, zDk, pd_eql, pd_neq, pd_eql0, pd_neq0]
  refine CW_block (CW_seq (CW_region ?_))
  simp only [zZ, reduceIte, Nat.reduceLT, Int.reduceToNat, Int.reduceLE, Int.reduceEq, Int.reduceLT, Nat.reduceEqDiff, Nat.reduceAdd, zDk, pd_eql, pd_neq, pd_eql0, pd_neq0]
  refine CW_cond false (by rfl) (fun h => by cases h) (fun _ => CW_seq (CW_region ?_))
  simp only [zZ, reduceIte, Nat.reduceLT, Int.reduceToNat, Int.reduceLE, Int.reduceEq, Int.reduceLT, Nat.reduceEqDiff, Nat.reduceAdd, zDk, pd_eql, pd_neq, pd_eql0, pd_neq0]
  refine CW_cond (decide (e > 0)) (by rfl) (fun h => CW_region ?_) (fun h => CW_skip ?_)
  · have h := of_decide_eq_true h
    rw [if_pos (by omega)]
    have hbd : aBuild Tryz.prog 27 [(0, .int .i64 1), (2, .int .i64 e)] = some (.agg #[.int .i64 1, .int .i64 0, .int .i64 e]) := by kernel_rfl
    have hput : putIn 3 M gl 0 [.int .i64 1, .int .i64 0, .int .i64 e] (M.get gl) = some (M.set gl (some (.cells false 3 (setL secs 0 [.int .i64 1, .int .i64 0, .int .i64 e])))) := by
      rw [hs.l]
      simp only [putIn]
      rw [if_pos ⟨rfl, by rw [hs.len]; simp only [List.length_cons, List.length_nil]; omega, rfl⟩]
    simp only [zZ, reduceIte, Nat.reduceLT, Int.reduceToNat, Int.reduceLE, Int.reduceEq, Int.reduceLT, Nat.reduceEqDiff, Nat.reduceAdd, zDk, pd_eql, pd_neq, pd_eql0, pd_neq0, hr, hbd, hput, mEnd, sAnswer, sAnswer.sRes]
    refine ⟨by omega, _, Thin.refl _, ⟨⟨s, by rw [Mem.get_set_ne (Ne.symm hs.ne)]; exact hr⟩, Mem.get_set_same hs.l _, by simpa using hs.len, hs.ne⟩, Only.set (by simp) _, by rw [Mem.size_set]⟩
  · have h := of_decide_eq_false h
    rw [if_neg (by omega)]
    simp only [zZ, reduceIte, Nat.reduceLT, Int.reduceToNat, Int.reduceLE, Int.reduceEq, Int.reduceLT, Nat.reduceEqDiff, Nat.reduceAdd, zDk, pd_eql, pd_neq, pd_eql0, pd_neq0, mEnd, sAnswer, sAnswer.sRes]
    exact ⟨M, Thin.refl _, hs, Only.refl _ _, rfl⟩
set_option maxRecDepth 100000 in
set_option maxHeartbeats 2000000 in
theorem sstrays_spec (M : Mem) (sp p q g gl : Nat) (key : ByteArray) (secs : List Value) (d : Dsk) (e : Int) (hb : BlankD d e) (hd : DskAt M p q g d) (hs : ScnAt M sp p gl d.old.length key secs) (hz : ∀ i, 3 ≤ i → i < secs.length → secs[i]? = some (.int .i64 0)) :
    Abs.Spec Tryz.prog 33 [dp sp] M fun u M' => M' = M := by
  refine Abs.Spec.walkM Tryz.func33 (by rfl) _ Tryz.results33 _ Tryz.ntmps33 (by simp [dp]) ?_
  intro hc hx k
  obtain ⟨s, hr⟩ := hs.row
  unfold scnC at hr
  have hn := hb.ok.n
  have hdp : dp sp = .pointer (some ⟨sp, 0, none⟩) := rfl
  refine CW_seq (CW_region ?_)
  simp only [zZ, reduceIte, Nat.reduceLT, Int.reduceToNat, Int.reduceLE, Int.reduceEq, Int.reduceLT, Nat.reduceEqDiff, Nat.reduceAdd, zDk, pd_eql, pd_neq, pd_eql0, pd_neq0]
  refine CW_block (MW_loop (fun j f M' => ∃ i : Nat, 13 ≤ i ∧ j = d.old.length - i ∧ f = [(0, dp sp), (2, .int .i64 (i : Nat))] ∧ M' = M) (d.old.length - 13) ?_ ?_)
  · refine ⟨[0, 2], ?_⟩
    simp only [zZ, reduceIte, Nat.reduceLT, Int.reduceToNat, Int.reduceLE, Int.reduceEq, Int.reduceLT, Nat.reduceEqDiff, Nat.reduceAdd, keepF]
    exact ⟨M, Thin.refl _, 13, Nat.le_refl _, rfl, rfl, rfl⟩
  · rintro j f M' ⟨i, hi, rfl, rfl, e9⟩; subst e9
    refine CW_seq (CW_seq (CW_region ?_))
    simp only [zZ, reduceIte, Nat.reduceLT, Int.reduceToNat, Int.reduceLE, Int.reduceEq, Int.reduceLT, Nat.reduceEqDiff, Nat.reduceAdd, zDk, pd_eql, pd_neq, pd_eql0, pd_neq0, hdp, hr]
    refine ⟨by kernel_rfl, _, dlen_spec M' p q g d hd, ?_⟩
    rintro _ M9 ⟨rfl, e9⟩; replace e9 := e9.symm; subst e9
    simp only [zZ, reduceIte, Nat.reduceLT, Int.reduceToNat, Int.reduceLE, Int.reduceEq, Int.reduceLT, Nat.reduceEqDiff, Nat.reduceAdd, zDk, pd_eql, pd_neq, pd_eql0, pd_neq0]
    refine CW_cond (decide ((i : Int) < (d.old.length : Int))) (by rfl) (fun h => CW_skip ?_) (fun h => CW_exit ?_)
    · have h := of_decide_eq_true h
      have hil : i < d.old.length := by omega
      have g0 : (0 : Int) ≤ (i : Int) := by omega
      have hcell : cellIn (i * 3) (some (.cells false 3 secs)) = some (.int .i64 0) := by
        unfold cellIn
        exact hz _ (by omega) (by rw [hs.len]; omega)
      have htr := hb.trim (i := i) (by omega) hil
      have w1 : IntKind.i64.wrap ((i : Int) + 1) = ((i + 1 : Nat) : Int) := by rw [wri (by omega) (by omega)]; omega
      simp only [zZ, reduceIte, Nat.reduceLT, Int.reduceToNat, Int.reduceLE, Int.reduceEq, Int.reduceLT, Nat.reduceEqDiff, Nat.reduceAdd]
      refine CW_seq (CW_block (CW_seq (CW_region ?_)))
      have q0 : ((0 : Int) == 0) = true := rfl
      simp only [zZ, reduceIte, Nat.reduceLT, Int.reduceToNat, Int.reduceLE, Int.reduceEq, Int.reduceLT, Nat.reduceEqDiff, Nat.reduceAdd, zDk, pd_eql, pd_neq, pd_eql0, pd_neq0, hr, g0, h, and_self, hs.l, hcell, q0]
      refine ⟨by kernel_rfl, _, sread_spec M' sp p q g gl d.old.length key secs d hd hs (i : Int) (hb.may hil), ?_⟩
      rintro _ M9 ⟨rfl, e9⟩; replace e9 := e9.symm; subst e9
      rw [Int.toNat_natCast]
      simp only [zZ, reduceIte, Nat.reduceLT, Int.reduceToNat, Int.reduceLE, Int.reduceEq, Int.reduceLT, Nat.reduceEqDiff, Nat.reduceAdd, zDk, pd_eql, pd_neq, pd_eql0, pd_neq0]
      refine ⟨by kernel_rfl, _, trim_spec (str (d.sector i)) 0 (by decide) (by show (d.sector i).length ≤ _; omega) _, ?_⟩
      rintro _ M9 ⟨rfl, e9⟩; replace e9 := e9.symm; subst e9
      have h0' : Lib.trimB (str (d.sector i)).data.toList 0 = [] := htr.2
      rw [h0']
      simp only [zZ, reduceIte, Nat.reduceLT, Int.reduceToNat, Int.reduceLE, Int.reduceEq, Int.reduceLT, Nat.reduceEqDiff, Nat.reduceAdd, zDk, pd_eql, pd_neq, pd_eql0, pd_neq0, bne, beq_nilS, q0]
      refine CW_cond false (by rfl) (fun h => by cases h) (fun _ => CW_skip ?_)
      simp only [zZ, reduceIte, Nat.reduceLT, Int.reduceToNat, Int.reduceLE, Int.reduceEq, Int.reduceLT, Nat.reduceEqDiff, Nat.reduceAdd, zDk, pd_eql, pd_neq, pd_eql0, pd_neq0]
      refine CW_region ?_
      simp only [zZ, reduceIte, Nat.reduceLT, Int.reduceToNat, Int.reduceLE, Int.reduceEq, Int.reduceLT, Nat.reduceEqDiff, Nat.reduceAdd, zDk, pd_eql, pd_neq, pd_eql0, pd_neq0, w1]
      refine ⟨[0, 2], ?_⟩
      simp only [zZ, reduceIte, Nat.reduceLT, Int.reduceToNat, Int.reduceLE, Int.reduceEq, Int.reduceLT, Nat.reduceEqDiff, Nat.reduceAdd, keepF]
      exact ⟨M', Thin.refl _, d.old.length - (i + 1), ⟨i + 1, by omega, rfl, rfl, rfl⟩, by omega⟩
    · simp only [zZ, reduceIte, Nat.reduceLT, Int.reduceToNat, Int.reduceLE, Int.reduceEq, Int.reduceLT, Nat.reduceEqDiff, Nat.reduceAdd, zDk, pd_eql, pd_neq, pd_eql0, pd_neq0, mEnd, sAnswer, sAnswer.sRes]
      exact ⟨M', Thin.refl _, rfl⟩
end Go.Proofs.YtmnebimijlnlkaaGreatDoor
namespace Go.Proofs.YtmnebimijlnlkaaGreatDoor
open Go.RowKit Abs
theorem push_set (m : Mem) (x y : Blk) : (m.push x).set m.size (some y) = m.push y := by
  unfold Mem.push Mem.set Mem.size
  simp
end Go.Proofs.YtmnebimijlnlkaaGreatDoor
namespace Go.Proofs.YtmnebimijlnlkaaGreatDoor
open Go.RowKit Abs
theorem mk_Secs (m : Mem) (n : Nat) (hn : n ≤ 1000000) : aMakeSlice Tryz.prog m 23 (.int .i64 (n : Nat)) (.int .i64 (n : Nat)) = some (.slice (some ⟨m.size, 0, none⟩) n n, m.push (.cells false 3 (List.replicate (n * 3) (.int .i64 0)))) := by
  have hz : Tryz.t27.zero = some (.agg #[.int .i64 0, .int .i64 0, .int .i64 0]) := rfl
  have hb : Tryz.t27.bytes ≤ 100 := by decide
  have hs : Tryz.t27.size = 3 := rfl
  unfold aMakeSlice
  simp only [Tryz.underlying23, inf_Sec, hz, hs]
  have hc : ((Tryz.t27.bytes : Nat) : Int) * ((n : Nat) : Int) ≤ 281474976710656 := by
    have : Tryz.t27.bytes * n ≤ 100 * 1000000 := Nat.mul_le_mul hb hn
    rw [← Int.natCast_mul]; omega
  rw [if_pos ⟨rfl, by decide, rfl, by omega, Int.le_refl _, hc, by omega⟩]
  simp only [Int.toNat_natCast]
  congr 4
  show (List.range (n * 3)).map (fun i => (([.int .i64 0, .int .i64 0, .int .i64 0] : List Value)[i % 3]?).getD default) = _
  apply List.ext_getElem?
  intro i
  rw [List.getElem?_map, List.getElem?_replicate]
  by_cases hi : i < n * 3
  · rw [List.getElem?_range hi, if_pos hi]
    have : i % 3 = 0 ∨ i % 3 = 1 ∨ i % 3 = 2 := by omega
    rcases this with h | h | h <;> simp [h]
  · rw [if_neg hi, List.getElem?_eq_none (by simpa using hi)]
    rfl
theorem scan_small (M : Mem) (p q g : Nat) (d : Dsk) (hd : DskAt M p q g d) (secret : ByteArray) (hn : d.old.length < 13) :
    Abs.Spec Tryz.prog 10 [dp p, .string secret] M fun u M' => u = .tuple #[.slice none 0 0, .slice none 0 0, .int .i64 1] ∧ M' = M := by
  refine Abs.Spec.walkM Tryz.func10 (by rfl) _ Tryz.results10 _ Tryz.ntmps10 (by simp [dp]) ?_
  intro hc hx k
  refine CW_seq (CW_region ?_)
  simp only [zZ, reduceIte, Nat.reduceLT, Int.reduceToNat, Int.reduceLE, Int.reduceEq, Int.reduceLT, Nat.reduceEqDiff, Nat.reduceAdd, zDk, pd_eql, pd_neq, pd_eql0, pd_neq0]
  refine CW_seq (CW_block (CW_seq (CW_region ?_)))
  simp only [zZ, reduceIte, Nat.reduceLT, Int.reduceToNat, Int.reduceLE, Int.reduceEq, Int.reduceLT, Nat.reduceEqDiff, Nat.reduceAdd, zDk, pd_eql, pd_neq, pd_eql0, pd_neq0]
  refine ⟨by kernel_rfl, _, dlen_spec M p q g d hd, ?_⟩
  rintro _ M9 ⟨rfl, e9⟩; replace e9 := e9.symm; subst e9
  simp only [zZ, reduceIte, Nat.reduceLT, Int.reduceToNat, Int.reduceLE, Int.reduceEq, Int.reduceLT, Nat.reduceEqDiff, Nat.reduceAdd, zDk, pd_eql, pd_neq, pd_eql0, pd_neq0]
  refine CW_cond (decide ((d.old.length : Int) < 13)) (by rfl) (fun h => CW_seq (CW_region ?_)) (fun h => absurd (of_decide_eq_false h) (by omega))
  simp only [zZ, reduceIte, Nat.reduceLT, Int.reduceToNat, Int.reduceLE, Int.reduceEq, Int.reduceLT, Nat.reduceEqDiff, Nat.reduceAdd, zDk, pd_eql, pd_neq, pd_eql0, pd_neq0]
  refine CW_ret ?_
  simp only [zZ, reduceIte, Nat.reduceLT, Int.reduceToNat, Int.reduceLE, Int.reduceEq, Int.reduceLT, Nat.reduceEqDiff, Nat.reduceAdd, zDk, pd_eql, pd_neq, pd_eql0, pd_neq0, mEnd, sAnswer, sAnswer.sRes]
  exact ⟨M, Thin.refl _, rfl⟩
theorem scan_none (M : Mem) (secret : ByteArray) :
    Abs.Spec Tryz.prog 10 [.pointer none, .string secret] M fun u M' => u = .tuple #[.slice none 0 0, .slice none 0 0, .int .i64 1] ∧ M' = M := by
  refine Abs.Spec.walkM Tryz.func10 (by rfl) _ Tryz.results10 _ Tryz.ntmps10 (by simp [dp]) ?_
  intro hc hx k
  refine CW_seq (CW_region ?_)
  simp only [zZ, reduceIte, Nat.reduceLT, Int.reduceToNat, Int.reduceLE, Int.reduceEq, Int.reduceLT, Nat.reduceEqDiff, Nat.reduceAdd, zDk, pd_eql, pd_neq, pd_eql0, pd_neq0]
  refine CW_seq (CW_block (CW_seq (CW_region ?_)))
  simp only [zZ, reduceIte, Nat.reduceLT, Int.reduceToNat, Int.reduceLE, Int.reduceEq, Int.reduceLT, Nat.reduceEqDiff, Nat.reduceAdd, zDk, pd_eql, pd_neq, pd_eql0, pd_neq0]
  refine ⟨by kernel_rfl, _, dlen_none M, ?_⟩
  rintro _ M9 ⟨rfl, e9⟩; replace e9 := e9.symm; subst e9
  simp only [zZ, reduceIte, Nat.reduceLT, Int.reduceToNat, Int.reduceLE, Int.reduceEq, Int.reduceLT, Nat.reduceEqDiff, Nat.reduceAdd, zDk, pd_eql, pd_neq, pd_eql0, pd_neq0]
  refine CW_cond true (by rfl) (fun h => CW_seq (CW_region ?_)) (fun h => by cases h)
  simp only [zZ, reduceIte, Nat.reduceLT, Int.reduceToNat, Int.reduceLE, Int.reduceEq, Int.reduceLT, Nat.reduceEqDiff, Nat.reduceAdd, zDk, pd_eql, pd_neq, pd_eql0, pd_neq0]
  refine CW_ret ?_
  simp only [zZ, reduceIte, Nat.reduceLT, Int.reduceToNat, Int.reduceLE, Int.reduceEq, Int.reduceLT, Nat.reduceEqDiff, Nat.reduceAdd, zDk, pd_eql, pd_neq, pd_eql0, pd_neq0, mEnd, sAnswer, sAnswer.sRes]
  exact ⟨M, Thin.refl _, rfl⟩
theorem scan_dead (M : Mem) (p q g : Nat) (d : Dsk) (hd : DskAt M p q g d) (secret : ByteArray) (hn : 13 ≤ d.old.length) (hdead : d.dead = true) :
    Abs.Spec Tryz.prog 10 [dp p, .string secret] M fun u M' => u = .tuple #[.slice none 0 0, .slice none 0 0, .int .i64 7] ∧ M' = M := by
  refine Abs.Spec.walkM Tryz.func10 (by rfl) _ Tryz.results10 _ Tryz.ntmps10 (by simp [dp]) ?_
  intro hc hx k
  refine CW_seq (CW_region ?_)
  simp only [zZ, reduceIte, Nat.reduceLT, Int.reduceToNat, Int.reduceLE, Int.reduceEq, Int.reduceLT, Nat.reduceEqDiff, Nat.reduceAdd, zDk, pd_eql, pd_neq, pd_eql0, pd_neq0]
  refine CW_seq (CW_block (CW_seq (CW_region ?_)))
  simp only [zZ, reduceIte, Nat.reduceLT, Int.reduceToNat, Int.reduceLE, Int.reduceEq, Int.reduceLT, Nat.reduceEqDiff, Nat.reduceAdd, zDk, pd_eql, pd_neq, pd_eql0, pd_neq0]
  refine ⟨by kernel_rfl, _, dlen_spec M p q g d hd, ?_⟩
  rintro _ M9 ⟨rfl, e9⟩; replace e9 := e9.symm; subst e9
  simp only [zZ, reduceIte, Nat.reduceLT, Int.reduceToNat, Int.reduceLE, Int.reduceEq, Int.reduceLT, Nat.reduceEqDiff, Nat.reduceAdd, zDk, pd_eql, pd_neq, pd_eql0, pd_neq0]
  refine CW_cond (decide ((d.old.length : Int) < 13)) (by rfl) (fun h => absurd (of_decide_eq_true h) (by omega)) (fun h => CW_seq (CW_region ?_))
  simp only [zZ, reduceIte, Nat.reduceLT, Int.reduceToNat, Int.reduceLE, Int.reduceEq, Int.reduceLT, Nat.reduceEqDiff, Nat.reduceAdd, zDk, pd_eql, pd_neq, pd_eql0, pd_neq0]
  refine ⟨by kernel_rfl, _, dead_spec M p q g d hd, ?_⟩
  rintro _ M9 ⟨rfl, e9⟩; replace e9 := e9.symm; subst e9
  rw [hdead]
  simp only [zZ, reduceIte, Nat.reduceLT, Int.reduceToNat, Int.reduceLE, Int.reduceEq, Int.reduceLT, Nat.reduceEqDiff, Nat.reduceAdd, zDk, pd_eql, pd_neq, pd_eql0, pd_neq0]
  refine CW_cond true (by rfl) (fun h => CW_seq (CW_region ?_)) (fun h => by cases h)
  simp only [zZ, reduceIte, Nat.reduceLT, Int.reduceToNat, Int.reduceLE, Int.reduceEq, Int.reduceLT, Nat.reduceEqDiff, Nat.reduceAdd, zDk, pd_eql, pd_neq, pd_eql0, pd_neq0]
  refine CW_ret ?_
  simp only [zZ, reduceIte, Nat.reduceLT, Int.reduceToNat, Int.reduceLE, Int.reduceEq, Int.reduceLT, Nat.reduceEqDiff, Nat.reduceAdd, zDk, pd_eql, pd_neq, pd_eql0, pd_neq0, mEnd, sAnswer, sAnswer.sRes]
  exact ⟨M, Thin.refl _, rfl⟩
def secsV (e : Int) (n : Nat) : List Value := if 0 < e then setL (List.replicate (n * 3) (.int .i64 0)) 0 [.int .i64 1, .int .i64 0, .int .i64 e] else List.replicate (n * 3) (.int .i64 0)
theorem secsV_zero (e : Int) (n : Nat) {i : Nat} (h3 : 3 ≤ i) (hi : i < n * 3) : (secsV e n)[i]? = some (.int .i64 0) := by
  unfold secsV
  split
  · rw [setL_get _ _ _ _ (by simp; omega), if_neg (by simp only [List.length_cons, List.length_nil]; omega), List.getElem?_replicate, if_pos hi]
  · rw [List.getElem?_replicate, if_pos hi]
theorem secsV_len (e : Int) (n : Nat) : (secsV e n).length = n * 3 := by
  unfold secsV
  split
  · rw [setL_length, List.length_replicate]
  · rw [List.length_replicate]
set_option maxRecDepth 100000 in
set_option maxHeartbeats 4000000 in
theorem scan_blank (M : Mem) (p q g : Nat) (d : Dsk) (e : Int) (hb : BlankD d e) (hd : DskAt M p q g d) (secret : ByteArray) (hsec : secret.size ≤ 1000000) (hn : 13 ≤ d.old.length) :
    Abs.Spec Tryz.prog 10 [dp p, .string secret] M fun u M' => ∃ gl, u = .tuple #[.slice (some ⟨gl, 0, none⟩) d.old.length d.old.length, .slice none 0 0, .int .i64 0] ∧ M'.get gl = some (.cells false 3 (secsV e d.old.length)) ∧ M.size ≤ gl ∧ Only [] M M' ∧ M.size ≤ M'.size := by
  refine Abs.Spec.walkM Tryz.func10 (by rfl) _ Tryz.results10 _ Tryz.ntmps10 (by simp [dp]) ?_
  intro hc hx k
  have hN := hb.ok.n
  have hpl : p < M.size := by obtain ⟨s, h⟩ := hd.row; exact get_live h
  have hql : q < M.size := get_live hd.kv
  have hgl0 : g < M.size := get_live hd.old
  refine CW_seq (CW_region ?_)
  simp only [zZ, reduceIte, Nat.reduceLT, Int.reduceToNat, Int.reduceLE, Int.reduceEq, Int.reduceLT, Nat.reduceEqDiff, Nat.reduceAdd, zDk, pd_eql, pd_neq, pd_eql0, pd_neq0]
  refine CW_seq (CW_block (CW_seq (CW_region ?_)))
  simp only [zZ, reduceIte, Nat.reduceLT, Int.reduceToNat, Int.reduceLE, Int.reduceEq, Int.reduceLT, Nat.reduceEqDiff, Nat.reduceAdd, zDk, pd_eql, pd_neq, pd_eql0, pd_neq0]
  refine ⟨by kernel_rfl, _, dlen_spec M p q g d hd, ?_⟩
  rintro _ M9 ⟨rfl, e9⟩; replace e9 := e9.symm; subst e9
  simp only [zZ, reduceIte, Nat.reduceLT, Int.reduceToNat, Int.reduceLE, Int.reduceEq, Int.reduceLT, Nat.reduceEqDiff, Nat.reduceAdd, zDk, pd_eql, pd_neq, pd_eql0, pd_neq0]
  refine CW_cond (decide ((d.old.length : Int) < 13)) (by rfl) (fun h => absurd (of_decide_eq_true h) (by omega)) (fun h => CW_seq (CW_region ?_))
  simp only [zZ, reduceIte, Nat.reduceLT, Int.reduceToNat, Int.reduceLE, Int.reduceEq, Int.reduceLT, Nat.reduceEqDiff, Nat.reduceAdd, zDk, pd_eql, pd_neq, pd_eql0, pd_neq0]
  refine ⟨by kernel_rfl, _, dead_spec M p q g d hd, ?_⟩
  rintro _ M9 ⟨rfl, e9⟩; replace e9 := e9.symm; subst e9
  rw [hb.live]
  simp only [zZ, reduceIte, Nat.reduceLT, Int.reduceToNat, Int.reduceLE, Int.reduceEq, Int.reduceLT, Nat.reduceEqDiff, Nat.reduceAdd, zDk, pd_eql, pd_neq, pd_eql0, pd_neq0]
  refine CW_cond false (by rfl) (fun h => by cases h) (fun h => CW_skip ?_)
  simp only [zZ, reduceIte, Nat.reduceLT, Int.reduceToNat, Int.reduceLE, Int.reduceEq, Int.reduceLT, Nat.reduceEqDiff, Nat.reduceAdd, zDk, pd_eql, pd_neq, pd_eql0, pd_neq0]
  refine CW_seq (CW_region ?_)
  simp only [zZ, reduceIte, Nat.reduceLT, Int.reduceToNat, Int.reduceLE, Int.reduceEq, Int.reduceLT, Nat.reduceEqDiff, Nat.reduceAdd, zDk, pd_eql, pd_neq, pd_eql0, pd_neq0]
  refine ⟨by kernel_rfl, _, keys_spec secret _ (by omega) (by decide) M, ?_⟩
  rintro _ M9 ⟨rfl, e9⟩; replace e9 := e9.symm; subst e9
  obtain ⟨key, hkey⟩ : ∃ key, key = str (Sha.headKey secret.data.toList) := ⟨_, rfl⟩
  have hkv : keysV secret.data.toList (⟨#[]⟩ : ByteArray).data.toList = .agg #[.string (str (Sha.encKey secret.data.toList [])), .string (str (Sha.macKey secret.data.toList [])), .string key] := by rw [hkey]; rfl
  rw [hkv]
  have hfld : vField Tryz.prog 67 (some (.agg #[.string (str (Sha.encKey secret.data.toList [])), .string (str (Sha.macKey secret.data.toList [])), .string key])) 2 = some (.string key) := by rfl
  simp only [zZ, reduceIte, Nat.reduceLT, Int.reduceToNat, Int.reduceLE, Int.reduceEq, Int.reduceLT, Nat.reduceEqDiff, Nat.reduceAdd, zDk, pd_eql, pd_neq, pd_eql0, pd_neq0, hfld]
  refine ⟨by kernel_rfl, _, dlen_spec M p q g d hd, ?_⟩
  rintro _ M9 ⟨rfl, e9⟩; replace e9 := e9.symm; subst e9
  have hbd : aBuild Tryz.prog 71 [(0, .pointer (some ⟨p, 0, none⟩)), (1, .string key), (2, .slice (some ⟨M.size, 0, none⟩) d.old.length d.old.length)] = some (.agg #[.pointer (some ⟨p, 0, none⟩), .string key, .slice (some ⟨M.size, 0, none⟩) d.old.length d.old.length, .slice none 0 0, .slice none 0 0]) := by kernel_rfl
  have hbx : nBox Tryz.prog 71 (.agg #[.pointer (some ⟨p, 0, none⟩), .string key, .slice (some ⟨M.size, 0, none⟩) d.old.length d.old.length, .slice none 0 0, .slice none 0 0]) = some (.cells false (aStride Tryz.prog 71) [.pointer (some ⟨p, 0, none⟩), .string key, .slice (some ⟨M.size, 0, none⟩) d.old.length d.old.length, .slice none 0 0, .slice none 0 0]) := bx_Scn _ rfl
  generalize aStride Tryz.prog 71 = s1 at hbx
  have hdp : dp p = .pointer (some ⟨p, 0, none⟩) := rfl
  simp only [zZ, reduceIte, Nat.reduceLT, Int.reduceToNat, Int.reduceLE, Int.reduceEq, Int.reduceLT, Nat.reduceEqDiff, Nat.reduceAdd, zDk, pd_eql, pd_neq, pd_eql0, pd_neq0, mk_Secs M d.old.length (by omega), hdp, hbd, hbx]
  obtain ⟨M1, hM1⟩ : ∃ M1, M1 = (M.push (.cells false 3 (List.replicate (d.old.length * 3) (.int .i64 0)))).push (.cells false s1 [.pointer (some ⟨p, 0, none⟩), .string key, .slice (some ⟨M.size, 0, none⟩) d.old.length d.old.length, .slice none 0 0, .slice none 0 0]) := ⟨_, rfl⟩
  obtain ⟨gl, hgl⟩ : ∃ gl, gl = M.size := ⟨_, rfl⟩
  obtain ⟨sp, hsp⟩ : ∃ sp, sp = M.size + 1 := ⟨_, rfl⟩
  have hg1 : M1.get gl = some (.cells false 3 (List.replicate (d.old.length * 3) (.int .i64 0))) := by rw [hM1, hgl, Mem.get_push_old (by rw [Mem.size_push]; omega), Mem.get_push_new]
  have hsp1 : M1.get sp = some (.cells false s1 (scnC p gl d.old.length key)) := by
    have := Mem.get_push_new (M.push (.cells false 3 (List.replicate (d.old.length * 3) (.int .i64 0)))) (.cells false s1 [.pointer (some ⟨p, 0, none⟩), .string key, .slice (some ⟨M.size, 0, none⟩) d.old.length d.old.length, .slice none 0 0, .slice none 0 0])
    rw [Mem.size_push] at this
    rw [hM1, hsp, this, hgl]; rfl
  have ho1 : Only [] M M1 := by rw [hM1]; exact (Only.push _ _ _).trans (Only.push _ _ _)
  have hs1 : M1.size = M.size + 2 := by rw [hM1]; simp only [Mem.size_push]
  rw [Mem.size_push, ← hM1, ← hsp, ← hgl]
  have hd1 : DskAt M1 p q g d := hd.only ho1 (by simp) (by simp) (by simp)
  have hsc1 : ScnAt M1 sp p gl d.old.length key (List.replicate (d.old.length * 3) (.int .i64 0)) := ⟨⟨s1, hsp1⟩, hg1, by simp, by omega⟩
  refine CW_seq (CW_region ?_)
  simp only [zZ, reduceIte, Nat.reduceLT, Int.reduceToNat, Int.reduceLE, Int.reduceEq, Int.reduceLT, Nat.reduceEqDiff, Nat.reduceAdd, zDk, pd_eql, pd_neq, pd_eql0, pd_neq0]
  refine ⟨by kernel_rfl, _, sepoch_spec M1 sp p q g gl d.old.length key _ d e hb hd1 hsc1 (by omega), ?_⟩
  rintro u0 M2 ⟨hsc2, ho2, hs2⟩
  have hsv : (if 0 < e then setL (List.replicate (d.old.length * 3) (.int .i64 0)) 0 [.int .i64 1, .int .i64 0, .int .i64 e] else List.replicate (d.old.length * 3) (.int .i64 0)) = secsV e d.old.length := rfl
  rw [hsv] at hsc2
  have hd2 : DskAt M2 p q g d := hd1.only ho2 (by simp; omega) (by simp; omega) (by simp; omega)
  have ho2' : Only [] M M2 := fun b x _ hx => by
    have := get_live hx
    exact ho2 b x (by simp; omega) (ho1 b x (by simp) hx)
  simp only [zZ, reduceIte, Nat.reduceLT, Int.reduceToNat, Int.reduceLE, Int.reduceEq, Int.reduceLT, Nat.reduceEqDiff, Nat.reduceAdd, zDk, pd_eql, pd_neq, pd_eql0, pd_neq0]
  have hloop : ∀ M', Only [] M2 M' → DskAt M' p q g d ∧ ScnAt M' sp p gl d.old.length key (secsV e d.old.length) := fun M' ho => ⟨hd2.only ho (by simp) (by simp) (by simp), hsc2.same ho (by simp) (by simp)⟩
  refine CW_seq (CW_seq (CW_region ?_))
  simp only [zZ, reduceIte, Nat.reduceLT, Int.reduceToNat, Int.reduceLE, Int.reduceEq, Int.reduceLT, Nat.reduceEqDiff, Nat.reduceAdd, zDk, pd_eql, pd_neq, pd_eql0, pd_neq0]
  refine CW_block (MW_loop (fun j f M' => ∃ i : Nat, j = 8 - i ∧ i ≤ 8 ∧ f = [(0, .pointer (some ⟨p, 0, none⟩)), (7, .pointer (some ⟨sp, 0, none⟩)), (35, .int .i64 (i : Nat))] ∧ Only [] M2 M' ∧ M2.size ≤ M'.size) 8 ?_ ?_)
  · refine ⟨[0, 7, 35], ?_⟩
    simp only [zZ, reduceIte, Nat.reduceLT, Int.reduceToNat, Int.reduceLE, Int.reduceEq, Int.reduceLT, Nat.reduceEqDiff, Nat.reduceAdd, keepF]
    exact ⟨M2, Thin.refl _, 0, rfl, by omega, rfl, Only.refl _ _, Nat.le_refl _⟩
  · rintro j f M' ⟨i, rfl, hi8, rfl, ho, hss⟩
    obtain ⟨hd', hsc'⟩ := hloop M' ho
    refine CW_seq (CW_region ?_)
    simp only [zZ, reduceIte, Nat.reduceLT, Int.reduceToNat, Int.reduceLE, Int.reduceEq, Int.reduceLT, Nat.reduceEqDiff, Nat.reduceAdd, zDk, pd_eql, pd_neq, pd_eql0, pd_neq0]
    refine CW_seq (CW_cond (decide ((i : Int) < 8)) (by rfl) (fun h => CW_skip ?_) (fun h => CW_exit ?_))
    · have h := of_decide_eq_true h
      have hi : i < 8 := by omega
      have w1 : IntKind.i64.wrap (5 + (i : Int)) = ((5 + i : Nat) : Int) := by rw [wri (by omega) (by omega)]; omega
      have w2 : IntKind.i64.wrap ((i : Int) + 1) = ((i + 1 : Nat) : Int) := by rw [wri (by omega) (by omega)]; omega
      have htr := hb.trim (i := 5 + i) (by omega) (by omega)
      simp only [zZ, reduceIte, Nat.reduceLT, Int.reduceToNat, Int.reduceLE, Int.reduceEq, Int.reduceLT, Nat.reduceEqDiff, Nat.reduceAdd]
      refine CW_seq (CW_block (CW_seq (CW_region ?_)))
      simp only [zZ, reduceIte, Nat.reduceLT, Int.reduceToNat, Int.reduceLE, Int.reduceEq, Int.reduceLT, Nat.reduceEqDiff, Nat.reduceAdd, zDk, pd_eql, pd_neq, pd_eql0, pd_neq0]
      refine CW_seq (CW_region ?_)
      simp only [zZ, reduceIte, Nat.reduceLT, Int.reduceToNat, Int.reduceLE, Int.reduceEq, Int.reduceLT, Nat.reduceEqDiff, Nat.reduceAdd, zDk, pd_eql, pd_neq, pd_eql0, pd_neq0, w1]
      refine CW_seq (CW_region ?_)
      simp only [zZ, reduceIte, Nat.reduceLT, Int.reduceToNat, Int.reduceLE, Int.reduceEq, Int.reduceLT, Nat.reduceEqDiff, Nat.reduceAdd, zDk, pd_eql, pd_neq, pd_eql0, pd_neq0]
      refine ⟨by kernel_rfl, _, sread_spec M' sp p q g gl d.old.length key _ d hd' hsc' ((5 + i : Nat) : Int) (hb.may (by omega)), ?_⟩
      rintro _ M9 ⟨rfl, e9⟩; replace e9 := e9.symm; subst e9
      rw [Int.toNat_natCast]
      simp only [zZ, reduceIte, Nat.reduceLT, Int.reduceToNat, Int.reduceLE, Int.reduceEq, Int.reduceLT, Nat.reduceEqDiff, Nat.reduceAdd, zDk, pd_eql, pd_neq, pd_eql0, pd_neq0]
      refine ⟨by kernel_rfl, _, ctake_blank M' _ htr.1 htr.2, ?_⟩
      rintro _ M3 ⟨rfl, ho3, hs3⟩
      have hal : nAlloc Tryz.prog 75 = some (.cells false (aStride Tryz.prog 75) zeroExt) := al_Ext
      generalize aStride Tryz.prog 75 = s2 at hal
      have hput : putIn 8 (M3.push (.cells false s2 zeroExt)) M3.size 0 zeroExt ((M3.push (.cells false s2 zeroExt)).get M3.size) = some (M3.push (.cells false s2 zeroExt)) := by
        rw [Mem.get_push_new]
        simp only [putIn]
        rw [if_pos ⟨rfl, by decide, rfl⟩]
        congr 1
        exact push_set _ _ _
      simp only [zZ, reduceIte, Nat.reduceLT, Int.reduceToNat, Int.reduceLE, Int.reduceEq, Int.reduceLT, Nat.reduceEqDiff, Nat.reduceAdd, zDk, pd_eql, pd_neq, pd_eql0, pd_neq0, hal, agg_cells, hput]
      obtain ⟨M4, hM4⟩ : ∃ M4, M4 = M3.push (.cells false s2 zeroExt) := ⟨_, rfl⟩
      have hg4 : M4.get M3.size = some (.cells false s2 zeroExt) := by rw [hM4, Mem.get_push_new]
      have ho4 : Only [] M2 M4 := ho.trans (ho3.trans (by rw [hM4]; exact Only.push _ _ _))
      have hs4 : M4.size = M3.size + 1 := by rw [hM4, Mem.size_push]
      have hrow : rowIn 8 0 (some (.cells false s2 zeroExt)) = some (.agg zeroExt.toArray) := rfl
      rw [← hM4]
      refine CW_seq (CW_region ?_)
      simp only [zZ, reduceIte, Nat.reduceLT, Int.reduceToNat, Int.reduceLE, Int.reduceEq, Int.reduceLT, Nat.reduceEqDiff, Nat.reduceAdd, zDk, pd_eql, pd_neq, pd_eql0, pd_neq0, hg4, hrow]
      refine ⟨by kernel_rfl, _, splace_none M4 sp ((5 + i : Nat) : Int) 3 zeroExt rfl, ?_⟩
      rintro _ M5 ⟨rfl, ho5, hs5⟩
      simp only [zZ, reduceIte, Nat.reduceLT, Int.reduceToNat, Int.reduceLE, Int.reduceEq, Int.reduceLT, Nat.reduceEqDiff, Nat.reduceAdd, zDk, pd_eql, pd_neq, pd_eql0, pd_neq0]
      refine CW_cond false (by rfl) (fun h => by cases h) (fun _ => CW_skip ?_)
      simp only [zZ, reduceIte, Nat.reduceLT, Int.reduceToNat, Int.reduceLE, Int.reduceEq, Int.reduceLT, Nat.reduceEqDiff, Nat.reduceAdd, zDk, pd_eql, pd_neq, pd_eql0, pd_neq0]
      refine CW_region ?_
      simp only [zZ, reduceIte, Nat.reduceLT, Int.reduceToNat, Int.reduceLE, Int.reduceEq, Int.reduceLT, Nat.reduceEqDiff, Nat.reduceAdd, zDk, pd_eql, pd_neq, pd_eql0, pd_neq0, w2]
      refine ⟨[0, 7, 35], ?_⟩
      simp only [zZ, reduceIte, Nat.reduceLT, Int.reduceToNat, Int.reduceLE, Int.reduceEq, Int.reduceLT, Nat.reduceEqDiff, Nat.reduceAdd, keepF]
      exact ⟨M5, Thin.refl _, 8 - (i + 1), ⟨i + 1, rfl, by omega, rfl, ho4.trans ho5, by omega⟩, by omega⟩
    · simp only [zZ, reduceIte, Nat.reduceLT, Int.reduceToNat, Int.reduceLE, Int.reduceEq, Int.reduceLT, Nat.reduceEqDiff, Nat.reduceAdd, zDk, pd_eql, pd_neq, pd_eql0, pd_neq0]
      refine CW_seq (CW_seq (CW_region ?_))
      simp only [zZ, reduceIte, Nat.reduceLT, Int.reduceToNat, Int.reduceLE, Int.reduceEq, Int.reduceLT, Nat.reduceEqDiff, Nat.reduceAdd, zDk, pd_eql, pd_neq, pd_eql0, pd_neq0]
      obtain ⟨M6, hM6⟩ : ∃ M6, M6 = M' := ⟨_, rfl⟩
      rw [← hM6] at ho hss ⊢
      clear hd' hsc' hM6 M'
      refine CW_block (MW_loop (fun j f M' => ∃ i : Nat, j = 4 - i ∧ i ≤ 4 ∧ f = [(0, .pointer (some ⟨p, 0, none⟩)), (7, .pointer (some ⟨sp, 0, none⟩)), (57, .int .i64 (i : Nat))] ∧ Only [] M2 M' ∧ M2.size ≤ M'.size) 4 ?_ ?_)
      · refine ⟨[0, 7, 57], ?_⟩
        simp only [zZ, reduceIte, Nat.reduceLT, Int.reduceToNat, Int.reduceLE, Int.reduceEq, Int.reduceLT, Nat.reduceEqDiff, Nat.reduceAdd, keepF]
        exact ⟨M6, Thin.refl _, 0, rfl, by omega, rfl, ho, hss⟩
      · clear ho hss
        rintro j f M' ⟨i, rfl, hi8', rfl, ho, hss⟩
        obtain ⟨hd', hsc'⟩ := hloop M' ho
        refine CW_seq (CW_region ?_)
        simp only [zZ, reduceIte, Nat.reduceLT, Int.reduceToNat, Int.reduceLE, Int.reduceEq, Int.reduceLT, Nat.reduceEqDiff, Nat.reduceAdd, zDk, pd_eql, pd_neq, pd_eql0, pd_neq0]
        refine CW_seq (CW_cond (decide ((i : Int) < 4)) (by rfl) (fun h => CW_skip ?_) (fun h => CW_exit ?_))
        · have h := of_decide_eq_true h
          have hi : i < 4 := by omega
          have w1 : IntKind.i64.wrap (1 + (i : Int)) = ((1 + i : Nat) : Int) := by rw [wri (by omega) (by omega)]; omega
          have w2 : IntKind.i64.wrap ((i : Int) + 1) = ((i + 1 : Nat) : Int) := by rw [wri (by omega) (by omega)]; omega
          have htr := hb.trim (i := 1 + i) (by omega) (by omega)
          simp only [zZ, reduceIte, Nat.reduceLT, Int.reduceToNat, Int.reduceLE, Int.reduceEq, Int.reduceLT, Nat.reduceEqDiff, Nat.reduceAdd]
          refine CW_seq (CW_block (CW_seq (CW_region ?_)))
          simp only [zZ, reduceIte, Nat.reduceLT, Int.reduceToNat, Int.reduceLE, Int.reduceEq, Int.reduceLT, Nat.reduceEqDiff, Nat.reduceAdd, zDk, pd_eql, pd_neq, pd_eql0, pd_neq0]
          refine CW_seq (CW_region ?_)
          simp only [zZ, reduceIte, Nat.reduceLT, Int.reduceToNat, Int.reduceLE, Int.reduceEq, Int.reduceLT, Nat.reduceEqDiff, Nat.reduceAdd, zDk, pd_eql, pd_neq, pd_eql0, pd_neq0, w1]
          refine ⟨by kernel_rfl, _, sread_spec M' sp p q g gl d.old.length key _ d hd' hsc' ((1 + i : Nat) : Int) (hb.may (by omega)), ?_⟩
          rintro _ M9 ⟨rfl, e9⟩; replace e9 := e9.symm; subst e9
          rw [Int.toNat_natCast]
          simp only [zZ, reduceIte, Nat.reduceLT, Int.reduceToNat, Int.reduceLE, Int.reduceEq, Int.reduceLT, Nat.reduceEqDiff, Nat.reduceAdd, zDk, pd_eql, pd_neq, pd_eql0, pd_neq0]
          refine ⟨by kernel_rfl, _, jtake_blank M' _ htr.1 htr.2, ?_⟩
          rintro _ M3 ⟨rfl, ho3, hs3⟩
          have hal : nAlloc Tryz.prog 85 = some (.cells false (aStride Tryz.prog 85) zeroRec) := al_Rec
          generalize aStride Tryz.prog 85 = s2 at hal
          have hput : putIn 13 (M3.push (.cells false s2 zeroRec)) M3.size 0 zeroRec ((M3.push (.cells false s2 zeroRec)).get M3.size) = some (M3.push (.cells false s2 zeroRec)) := by
            rw [Mem.get_push_new]
            simp only [putIn]
            rw [if_pos ⟨rfl, by decide, rfl⟩]
            congr 1
            exact push_set _ _ _
          simp only [zZ, reduceIte, Nat.reduceLT, Int.reduceToNat, Int.reduceLE, Int.reduceEq, Int.reduceLT, Nat.reduceEqDiff, Nat.reduceAdd, zDk, pd_eql, pd_neq, pd_eql0, pd_neq0, hal, agg_cells, hput]
          obtain ⟨M4, hM4⟩ : ∃ M4, M4 = M3.push (.cells false s2 zeroRec) := ⟨_, rfl⟩
          have hg4 : M4.get M3.size = some (.cells false s2 zeroRec) := by rw [hM4, Mem.get_push_new]
          have ho4 : Only [] M2 M4 := ho.trans (ho3.trans (by rw [hM4]; exact Only.push _ _ _))
          have hs4 : M4.size = M3.size + 1 := by rw [hM4, Mem.size_push]
          have hrow : rowIn 8 0 (some (.cells false s2 zeroRec)) = some (.agg zeroExt.toArray) := rfl
          rw [← hM4]
          refine CW_seq (CW_seq (CW_region ?_))
          simp only [zZ, reduceIte, Nat.reduceLT, Int.reduceToNat, Int.reduceLE, Int.reduceEq, Int.reduceLT, Nat.reduceEqDiff, Nat.reduceAdd, zDk, pd_eql, pd_neq, pd_eql0, pd_neq0, hg4, hrow, w1]
          refine ⟨by kernel_rfl, _, splace_none M4 sp ((1 + i : Nat) : Int) 2 zeroExt rfl, ?_⟩
          rintro _ M5 ⟨rfl, ho5, hs5⟩
          simp only [zZ, reduceIte, Nat.reduceLT, Int.reduceToNat, Int.reduceLE, Int.reduceEq, Int.reduceLT, Nat.reduceEqDiff, Nat.reduceAdd, zDk, pd_eql, pd_neq, pd_eql0, pd_neq0]
          refine CW_cond true (by rfl) (fun _ => CW_exit ?_) (fun h => by cases h)
          simp only [zZ, reduceIte, Nat.reduceLT, Int.reduceToNat, Int.reduceLE, Int.reduceEq, Int.reduceLT, Nat.reduceEqDiff, Nat.reduceAdd, zDk, pd_eql, pd_neq, pd_eql0, pd_neq0]
          refine CW_region ?_
          simp only [zZ, reduceIte, Nat.reduceLT, Int.reduceToNat, Int.reduceLE, Int.reduceEq, Int.reduceLT, Nat.reduceEqDiff, Nat.reduceAdd, zDk, pd_eql, pd_neq, pd_eql0, pd_neq0, w2]
          refine ⟨[0, 7, 57], ?_⟩
          simp only [zZ, reduceIte, Nat.reduceLT, Int.reduceToNat, Int.reduceLE, Int.reduceEq, Int.reduceLT, Nat.reduceEqDiff, Nat.reduceAdd, keepF]
          exact ⟨M5, Thin.refl _, 4 - (i + 1), ⟨i + 1, rfl, by omega, rfl, ho4.trans ho5, by omega⟩, by omega⟩
        · simp only [zZ, reduceIte, Nat.reduceLT, Int.reduceToNat, Int.reduceLE, Int.reduceEq, Int.reduceLT, Nat.reduceEqDiff, Nat.reduceAdd, zDk, pd_eql, pd_neq, pd_eql0, pd_neq0]
          refine CW_seq (CW_region ?_)
          simp only [zZ, reduceIte, Nat.reduceLT, Int.reduceToNat, Int.reduceLE, Int.reduceEq, Int.reduceLT, Nat.reduceEqDiff, Nat.reduceAdd, zDk, pd_eql, pd_neq, pd_eql0, pd_neq0]
          refine ⟨by kernel_rfl, _, sstrays_spec M' sp p q g gl key _ d e hb hd' hsc' (fun i h3 hi => secsV_zero e _ h3 (by rw [secsV_len] at hi; exact hi)), ?_⟩
          rintro u1 M9 e9; replace e9 := e9.symm; subst e9
          simp only [zZ, reduceIte, Nat.reduceLT, Int.reduceToNat, Int.reduceLE, Int.reduceEq, Int.reduceLT, Nat.reduceEqDiff, Nat.reduceAdd, zDk, pd_eql, pd_neq, pd_eql0, pd_neq0]
          obtain ⟨s5, hr5⟩ := hsc'.row
          unfold scnC at hr5
          refine CW_seq (CW_draw2 hmix 9 (by kernel_rfl) ?_)
          simp only [zZ, reduceIte, Nat.reduceLT, Int.reduceToNat, Int.reduceLE, Int.reduceEq, Int.reduceLT, Nat.reduceEqDiff, Nat.reduceAdd, zDk, pd_eql, pd_neq, pd_eql0, pd_neq0, hr5]
          refine CW_ret ?_
          simp only [zZ, reduceIte, Nat.reduceLT, Int.reduceToNat, Int.reduceLE, Int.reduceEq, Int.reduceLT, Nat.reduceEqDiff, Nat.reduceAdd, zDk, pd_eql, pd_neq, pd_eql0, pd_neq0, mEnd, sAnswer, sAnswer.sRes]
          exact ⟨_, Thin.refl _, gl, rfl, hsc'.l, by omega, ho2'.trans ho, by omega⟩
end Go.Proofs.YtmnebimijlnlkaaGreatDoor
namespace Go.Proofs.YtmnebimijlnlkaaGreatDoor.Abs
open Go
theorem frame_init {n : Nat → Prop} {ι : Nat → Loc} {xs ys : List Value} {fn : Func} (hys : VRels n ι xs ys) : ARel n ι (aFrame fn xs) { tmps := ys.toArray ++ Array.replicate (fn.ntmps - ys.toArray.size) undef, defers := [] } := by
  refine ⟨rfl, ?_⟩
  simp only [Array.toList_append, Array.toList_replicate, List.size_toArray]
  rw [← hys.1]
  unfold aFrame
  refine VRels.append hys ⟨rfl, fun i x y hx hy => ?_⟩
  rw [hx] at hy
  cases hy
  have := List.mem_of_getElem? hx
  rw [List.mem_replicate] at this
  rw [this.2]
  exact undef_rel
theorem Spec.of_defer {P : Program} {k k' : FuncId} {fn fn' : Func} {c0 c2 c' : Code} {id : Nat} {o1 o2 : Oper} {t : Nat} {caps : Array Operand} {xs : List Value} {m : Mem} {R : Value → Mem → Prop}
    (hf : P.funcs[k]? = some fn) (hb : fn.body = some (.seq c0 (.seq (.region id #[o1, o2] false) c2)))
    (ho1 : o1.op = .makeFunc (.func k') #[] caps) (hd1 : o1.dst = some t) (hg1 : o1.guard = none) (ho2 : o2.op = .defer { callee := .value (.tmp t), args := #[], argTypes := #[] }) (hd2 : o2.dst = none) (hg2 : o2.guard = none)
    (he : entered P k' = true) (hf' : P.funcs[k']? = some fn') (hb' : fn'.body = some c')
    (h : AW P c0 (fun e a1 m1 => e = .normal ∧ ∃ l, evArgs a1 caps.toList = some l ∧ t < a1.length ∧
      ∀ D : Defs, @AW D P c2 (fun e a2 m2 => (e = .ret ∨ e = .normal) ∧ @AW defsNil P c' (fun e' a3 m3 => (e' = .ret ∨ e' = .normal) ∧ (∃ u, aAnswer P fn'.results.toList a3 m3 = some u) ∧ ∃ u, aAnswer P fn.results.toList a2 m3 = some u ∧ R u m3) (aFrame fn' l) m2)
        (a1.set t (.func (.func k') #[] l.toArray)) m1) (aFrame fn xs) m) : Spec P k xs m R := by
  intro ι w ys hys hr
  refine calls_of_wp_defers hf hb ?_
  refine wp_seq (wp_mono (h ι m w ι _ w (Step.refl _ _ _) (frame_init hys) hr) ?_)
  rintro e act w1 ⟨κ, a1, m1, ⟨rfl, l, hl, htl, h2⟩, ha, hr1, hs1⟩
  refine wp_seq (wp_region_list ?_)
  have hla := evArgs_rel ha hl
  obtain ⟨cs, hcs⟩ : ∃ cs, cs = caps.map act.eval := ⟨_, rfl⟩
  have hlc : VRels m1.Has κ l cs.toList := by rw [hcs, Array.toList_map]; exact hla
  have hty : act.tmps.size = a1.length := by have := ha.tmps.1; simpa using this.symm
  have hw : ∀ (o : Oper) (y : Nat → Option Bool), o.guard = none → Region.wanted o y = true := fun o y hg => by unfold Region.wanted; rw [hg]
  have run1 : (execOp act.eval o1).run P w1 = .ok (.value (.func (.func k') #[] cs)) w1 := by
    simp [execOp, ho1, hcs, Instr.makeFunc]
  obtain ⟨act1, hact1⟩ : ∃ act1, act1 = act.put (some t) (.func (.func k') #[] cs) := ⟨_, rfl⟩
  have heval : act1.eval (.tmp t) = .func (.func k') #[] cs := by
    rw [hact1]
    simp [Act.eval, Act.put, hty, htl]
  have run2 : (execOp act1.eval o2).run P w1 = .ok (.defer ⟨.fn (.func k') cs, #[]⟩) w1 := by
    unfold execOp
    rw [ho2]
    simp [resolve, heval, Deferred.ofValue]
  have hput : ({ act1 with defers := ⟨.fn (.func k') cs, #[]⟩ :: act1.defers } : Act).put o2.dst undef = { tmps := act1.tmps, defers := [⟨.fn (.func k') cs, #[]⟩] } := by
    have : act1.defers = [] := by rw [hact1]; exact ha.defers
    rw [hd2, this]
    rfl
  simp only [wpList]
  rw [if_pos (hw _ _ hg1)]
  left
  unfold Oper.wp
  rw [run1, Oper.upon_value, hd1, ← hact1]
  rw [if_pos (hw _ _ hg2)]
  left
  rw [run2, Oper.upon_defer, hput]
  -- what comes behind
  have ha1 : ARel m1.Has κ (a1.set t (.func (.func k') #[] l.toArray)) act1 := by
    rw [hact1]
    refine ha.put t (.func _ _ _ _ _ rfl (fun i x y hx => by simp at hx) ?_ fun i x y hx hy => ?_)
    · have := hlc.1; simpa using this
    · exact hlc.2 i x y (by simpa using hx) (by simpa using hy)
  have ha2 : @ARel ⟨[⟨.fn (.func k') cs, #[]⟩]⟩ m1.Has κ (a1.set t (.func (.func k') #[] l.toArray)) { tmps := act1.tmps, defers := [⟨.fn (.func k') cs, #[]⟩] } := @ARel.mk ⟨[⟨.fn (.func k') cs, #[]⟩]⟩ _ _ _ _ rfl ha1.tmps
  refine wp_mono (h2 ⟨[⟨.fn (.func k') cs, #[]⟩]⟩ κ m1 w1 κ _ w1 (Step.refl _ _ _) ha2 hr1) ?_
  rintro e act2 w2 ⟨μ, a2, m2, ⟨he2, haw⟩, hA2, hr2, hs2⟩
  have hdef : act2.defers = [⟨.fn (.func k') cs, #[]⟩] := @ARel.defers ⟨[⟨.fn (.func k') cs, #[]⟩]⟩ _ _ _ _ hA2
  have hinv : (invoke (.fn (.func k') cs) #[]).run P w2 = .ok (.enter k' cs) w2 := by
    unfold entered at he
    rw [hf'] at he
    simp only [Bool.and_eq_true, Bool.not_eq_true'] at he
    have hbn : fn'.body.isNone = false := by rw [hb']; rfl
    simp only [invoke, callFunc, Sem.run_bind, run_program, Result.andThen_ok, hf', he.2, hbn, Bool.false_eq_true, if_false, Array.empty_append]
    rfl
  have hlc2 : VRels m2.Has μ l cs.toList := hlc.mono hs2.grows hs2.at_
  have hleave : Leaves P fn act2.tmps (fun e w' => ∃ v v' κ m', R v m' ∧ e = .returned v' ∧ VRel m'.Has κ v v' ∧ Rel κ m' w' ∧ Step ι m w κ m' w') [⟨.fn (.func k') cs, #[]⟩] .returning w2 := by
    refine leaves_cons (by simp) hinv (CallsD.mono (callsD_of_wp (R := fun e w' => ∃ v', e = .returned v' ∧ ∃ u0, (results fn act2.tmps).run P w' = .ok u0 w' ∧ ∃ v v' κ m', R v m' ∧ Ending.returned u0 = .returned v' ∧ VRel m'.Has κ v v' ∧ Rel κ m' w' ∧ Step ι m w κ m' w') hf' hb' ?_) ?_)
    · have hfi := frame_init (fn := fn') hlc2
      rw [Array.toArray_toList] at hfi
      refine wp_mono (haw μ m2 w2 μ _ w2 (Step.refl _ _ _) hfi hr2) ?_
      rintro e act3 w3 ⟨ν, a3, m3, ⟨he3, ⟨u1, hu1⟩, u, hu, hR⟩, hA3, hr3, hs3⟩
      obtain ⟨v1, hv1, _⟩ := aAnswer_run hA3 hr3 hu1
      have hA2' : @ARel ⟨[⟨.fn (.func k') cs, #[]⟩]⟩ m3.Has ν a2 act2 := @ARel.mono ⟨[⟨.fn (.func k') cs, #[]⟩]⟩ _ _ _ _ hs3.grows hs3.at_ _ _ hA2
      obtain ⟨v2, hv2, hv3⟩ := @aAnswer_run _ _ _ ⟨[⟨.fn (.func k') cs, #[]⟩]⟩ _ _ _ _ _ hA2' hr3 hu
      have key : ∃ v, (results fn' act3.tmps).run P w3 = .ok v w3 ∧ ∃ v', Ending.returned v = .returned v' ∧ ∃ u0, (results fn act2.tmps).run P w3 = .ok u0 w3 ∧ ∃ v v' κ m', R v m' ∧ Ending.returned u0 = .returned v' ∧ VRel m'.Has κ v v' ∧ Rel κ m' w3 ∧ Step ι m w κ m' w3 :=
        ⟨v1, hv1, v1, rfl, v2, hv2, u, v2, ν, m3, hR, rfl, hv3, hr3, (hs1.trans hs2).trans hs3⟩
      rcases he3 with rfl | rfl
      · exact ⟨hA3.defers, key⟩
      · exact ⟨hA3.defers, key⟩
    · rintro e u' w' ⟨rfl, v', rfl, u0, hu0, hR⟩
      exact ⟨u0, hu0, hR⟩
  rcases he2 with rfl | rfl
  · show Leaves P fn act2.tmps _ act2.defers .returning w2
    rw [hdef]; exact hleave
  · show Leaves P fn act2.tmps _ act2.defers .returning w2
    rw [hdef]; exact hleave
end Go.Proofs.YtmnebimijlnlkaaGreatDoor.Abs
namespace Go.Proofs.YtmnebimijlnlkaaGreatDoor.Abs
open Go Go.RowKit
theorem sAnswer_spec {P : Program} {rs : List ResultVar} {n : Nat} {f : AL} {a : List Value} {m : Mem} (h1 : Knows n f a) {v : Value} (hv : sAnswer P rs f m = some v) : aAnswer P rs a m = some v := by
  unfold sAnswer at hv
  unfold aAnswer
  split at hv <;> first | (cases hv; done) | skip
  · rename_i v0 hv0; cases hv; simp only [sRes_spec h1 _ _ hv0]
  · rename_i l hne hl
    cases hv
    simp only [sRes_spec h1 _ _ hl]
theorem knows_frame {xs : List Value} {fn : Func} (hx : xs.length ≤ fn.ntmps) : Knows fn.ntmps (alOf 0 xs) (aFrame fn xs) := by
  refine ⟨by simp [aFrame]; omega, fun t v hv => ?_⟩
  obtain ⟨_, h2⟩ := alOf_get xs 0 t v hv
  unfold aFrame
  rw [List.getElem?_append, if_pos]
  · exact h2
  · exact (List.getElem?_eq_some_iff.1 h2).1
def dEnd (P : Program) (c' : Code) (n' : Nat) (l : List Value) (rs : List ResultVar) (R : Value → Mem → Prop) (e : Exit) (f2 : AL) (m2 : Mem) : Prop :=
  (e = .ret ∨ e = .normal) ∧ @SW defsNil P n' c' (fun e' _ m3 => (e' = .ret ∨ e' = .normal) ∧ ∃ u, sAnswer P rs f2 m3 = some u ∧ R u m3) (alOf 0 l) m2
theorem Spec.walk_defer {P : Program} {k k' : FuncId} {fn fn' : Func} {c0 c2 c' : Code} {id : Nat} {o1 o2 : Oper} {t : Nat} {caps : Array Operand} {xs : List Value} {m : Mem} {R : Value → Mem → Prop}
    (hf : P.funcs[k]? = some fn) (hb : fn.body = some (.seq c0 (.seq (.region id #[o1, o2] false) c2)))
    (ho1 : o1.op = .makeFunc (.func k') #[] caps) (hd1 : o1.dst = some t) (hg1 : o1.guard = none) (ho2 : o2.op = .defer { callee := .value (.tmp t), args := #[], argTypes := #[] }) (hd2 : o2.dst = none) (hg2 : o2.guard = none)
    (he : entered P k' = true) (hf' : P.funcs[k']? = some fn') (hb' : fn'.body = some c') (hr' : fn'.results = #[]) (rs : Array ResultVar) (hr : fn.results = rs) (n : Nat) (hn : fn.ntmps = n) (hx : xs.length ≤ n) (htn : t < n) (n' : Nat) (hn' : fn'.ntmps = n')
    (h : SW P n c0 (fun e f1 m1 => e = .normal ∧ ∃ l, sArgs (AL.look f1) caps.toList = some l ∧ l.length ≤ n' ∧
      ∀ D : Defs, @SW D P n c2 (dEnd P c' n' l rs.toList R) ((t, .func (.func k') #[] l.toArray) :: f1) m1) (alOf 0 xs) m) : Spec P k xs m R := by
  subst hr; subst hn; subst hn'
  refine Spec.of_defer hf hb ho1 hd1 hg1 ho2 hd2 hg2 he hf' hb' ((h _ (knows_frame hx)).mono ?_)
  rintro e a1 m1 ⟨f1, k1, rfl, l, hl, hll, h2⟩
  have close : ∀ e f2 a2 m2, Knows fn.ntmps f2 a2 → dEnd P c' fn'.ntmps l fn.results.toList R e f2 m2 →
      (e = .ret ∨ e = .normal) ∧ AW P c' (fun e' a3 m3 => (e' = .ret ∨ e' = .normal) ∧ (∃ u, aAnswer P fn'.results.toList a3 m3 = some u) ∧ ∃ u, aAnswer P fn.results.toList a2 m3 = some u ∧ R u m3) (aFrame fn' l) m2 := by
    rintro e f2 a2 m2 k2 ⟨he2, h3⟩
    refine ⟨he2, (h3 _ (knows_frame hll)).mono ?_⟩
    rintro e' a3 m3 ⟨f3, k3, he3, u, hu, hR⟩
    refine ⟨he3, ⟨.tuple #[], by rw [hr']; rfl⟩, u, sAnswer_spec k2 hu, hR⟩
  refine ⟨rfl, l, ?_, by rw [k1.1]; exact htn, fun D => ?_⟩
  · rw [sArgs_eq] at hl
    exact fArgs_spec k1.look _ hl
  · have := h2 D _ (k1.put htn (.func (.func k') #[] l.toArray))
    refine @AW.mono D _ _ _ _ _ _ this ?_
    rintro e a2 m2 ⟨f2, k2, h3⟩
    exact close e f2 a2 m2 k2 h3
end Go.Proofs.YtmnebimijlnlkaaGreatDoor.Abs
namespace Go.Proofs.YtmnebimijlnlkaaGreatDoor
open Go.RowKit Abs
def epochText (n : Int) : List UInt8 := markE ++ Sha.fixed n 4
def Dsk.nextE (d : Dsk) (i : Int) : Dsk × Int × Int :=
  if (d.lastE i).2 ≠ 0 then (d, 0, (d.lastE i).2) else if 4294967295 < (d.lastE i).1 + 1 then (d, 0, 3) else
  if (d.write i (epochText ((d.lastE i).1 + 1))).2 ≠ 0 then ((d.write i (epochText ((d.lastE i).1 + 1))).1, 0, (d.write i (epochText ((d.lastE i).1 + 1))).2) else
  if ((d.write i (epochText ((d.lastE i).1 + 1))).1.sync).2 ≠ 0 then (((d.write i (epochText ((d.lastE i).1 + 1))).1.sync).1, 0, ((d.write i (epochText ((d.lastE i).1 + 1))).1.sync).2) else
  (((d.write i (epochText ((d.lastE i).1 + 1))).1.sync).1, (d.lastE i).1 + 1, 0)
theorem text_spec (n : Int) (m : Mem) : Abs.Spec Tryz.prog 86 [.int .i64 n] m fun u M => u = .string (str (epochText n)) ∧ M = m := by
  refine Abs.Spec.walkM Tryz.func86 (by rfl) _ Tryz.results86 _ Tryz.ntmps86 (by simp) ?_
  intro hc hx k
  have hcat : bsize (str markE) + bsize (str (Sha.fixed n 4)) ≤ 4611686018427387904 := by show 4 + (Sha.fixed n 4).length ≤ _; rw [Sha.fixed_length]; decide
  refine CW_seq (CW_region ?_)
  simp only [zZ, reduceIte, Nat.reduceLT, Int.reduceToNat, Int.reduceLE, Int.reduceEq, Int.reduceLT, Nat.reduceEqDiff, Nat.reduceAdd, zDk, pd_eql, pd_neq, pd_eql0, pd_neq0]
  refine CW_seq (CW_region ?_)
  simp only [zZ, reduceIte, Nat.reduceLT, Int.reduceToNat, Int.reduceLE, Int.reduceEq, Int.reduceLT, Nat.reduceEqDiff, Nat.reduceAdd, zDk, pd_eql, pd_neq, pd_eql0, pd_neq0]
  refine ⟨by kernel_rfl, _, fixed_spec n 4 (by omega) (by omega) _, ?_⟩
  rintro _ M9 ⟨rfl, e9⟩; replace e9 := e9.symm; subst e9
  simp only [zZ, reduceIte, Nat.reduceLT, Int.reduceToNat, Int.reduceLE, Int.reduceEq, Int.reduceLT, Nat.reduceEqDiff, Nat.reduceAdd, zDk, pd_eql, pd_neq, pd_eql0, pd_neq0]
  refine ⟨hcat, ?_⟩
  refine CW_ret ?_
  simp only [zZ, reduceIte, Nat.reduceLT, Int.reduceToNat, Int.reduceLE, Int.reduceEq, Int.reduceLT, Nat.reduceEqDiff, Nat.reduceAdd, zDk, pd_eql, pd_neq, pd_eql0, pd_neq0, mEnd, sAnswer, sAnswer.sRes]
  exact ⟨_, Thin.refl _, rfl, rfl⟩
theorem num4 (l : List UInt8) (h : l.length ≤ 4) : (Sha.num l : Int) ≤ 4294967295 := by
  have h1 := Sha.num_lt l
  have h2 : 256 ^ l.length ≤ 256 ^ 4 := Nat.pow_le_pow_right (by decide) h
  have h3 : (256 : Nat) ^ 4 = 4294967296 := by decide
  omega
theorem lastE_range (d : Dsk) (i : Int) : 0 ≤ (d.lastE i).1 ∧ (d.lastE i).1 ≤ 4294967295 := by
  unfold Dsk.lastE lastV
  split
  · split
    · split
      · exact ⟨Int.le_refl _, by decide⟩
      · exact ⟨Int.natCast_nonneg _, num4 _ (by rw [List.length_take]; omega)⟩
    · split <;> exact ⟨Int.le_refl _, by decide⟩
  · exact ⟨Int.le_refl _, by show (0 : Int) ≤ 4294967295; decide⟩
set_option maxRecDepth 100000 in
set_option maxHeartbeats 2000000 in
theorem next_spec (M : Mem) (p q g : Nat) (d : Dsk) (hd : DskAt M p q g d) (i : Int) :
    Abs.Spec Tryz.prog 43 [dp p, .int .i64 i] M fun u M' => u = .tuple #[.int .i64 (d.nextE i).2.1, .int .i64 (d.nextE i).2.2] ∧ DskAt M' p q g (d.nextE i).1 ∧ Only [p, q, g] M M' ∧ M.size ≤ M'.size := by
  obtain ⟨E, hE⟩ : ∃ E, E = d.nextE i := ⟨_, rfl⟩
  rw [← hE]
  refine Abs.Spec.walk_defer (k' := 85) Tryz.func43 (by rfl) rfl rfl rfl rfl rfl rfl (by kernel_rfl) Tryz.func85 (by rfl) Tryz.results85 _ Tryz.results43 _ Tryz.ntmps43 (by simp [dp]) (by decide) _ Tryz.ntmps85 ?_
  refine SW_region ?_
  simp only [zS, reduceIte, Nat.reduceLT, Int.reduceToNat, Int.reduceLE, Int.reduceEq, Int.reduceLT, Nat.reduceEqDiff, Nat.reduceAdd, zDk, pd_eql, pd_neq, pd_eql0, pd_neq0, zZ]
  generalize aStride Tryz.prog 3 = s1
  generalize aStride Tryz.prog 33 = s2
  obtain ⟨M1, hM1⟩ : ∃ M1, M1 = (M.push (.cells false s1 [.int .i64 0])).push (.cells false s2 [.int .i64 0]) := ⟨_, rfl⟩
  obtain ⟨bn, hbn⟩ : ∃ bn, bn = M.size := ⟨_, rfl⟩
  obtain ⟨be, hbe⟩ : ∃ be, be = M.size + 1 := ⟨_, rfl⟩
  have hold1 : ∀ b x, M.get b = some x → M1.get b = some x := fun b x hb => by
    have := get_live hb
    rw [hM1, Mem.get_push_old (by rw [Mem.size_push]; omega), Mem.get_push_old this]; exact hb
  have hn1 : M1.get bn = some (.cells false s1 [.int .i64 0]) := by rw [hM1, hbn, Mem.get_push_old (by rw [Mem.size_push]; omega), Mem.get_push_new]
  have he1 : M1.get be = some (.cells false s2 [.int .i64 0]) := by
    have := Mem.get_push_new (M.push (.cells false s1 [.int .i64 0])) (.cells false s2 [.int .i64 0])
    rw [Mem.size_push] at this
    rw [hM1, hbe]; exact this
  have hs1 : M1.size = M.size + 2 := by rw [hM1]; simp only [Mem.size_push]
  have hd1 := hd.same hold1
  have hpl : p < M.size := by obtain ⟨s, h⟩ := hd.row; exact get_live h
  have hql : q < M.size := get_live hd.kv
  have hgl : g < M.size := get_live hd.old
  rw [Mem.size_push, ← hM1, ← hbe, ← hbn]
  refine ⟨_, rfl, by show 2 ≤ 4; decide, ?_⟩
  -- what is done behind the body
  generalize hQ : dEnd Tryz.prog _ _ _ _ _ = Q
  have close : ∀ (f2 : AL) (m2 : Mem) (d' : Dsk) (n e : Int), AL.get f2 4 = some (.pointer (some ⟨bn, 0, none⟩)) → AL.get f2 5 = some (.pointer (some ⟨be, 0, none⟩)) → m2.get bn = some (.cells false s1 [.int .i64 n]) → m2.get be = some (.cells false s2 [.int .i64 e]) →
      DskAt m2 p q g d' → Only [p, q, g] M m2 → M.size ≤ m2.size → E = (d', if e = 0 then n else 0, e) → Q .ret f2 m2 := fun f2 m2 d' n e h4 h5 gn ge gd go gs gE => by
    rw [← hQ]
    have hans : ∀ (m3 : Mem) (n e : Int), m3.get bn = some (.cells false s1 [.int .i64 n]) → m3.get be = some (.cells false s2 [.int .i64 e]) → sAnswer Tryz.prog [.cell 4 3, .cell 5 33] f2 m3 = some (.tuple #[.int .i64 n, .int .i64 e]) := fun m3 n e g1 g2 => by
      have l1 : aLoad Tryz.prog m3 3 (.pointer (some ⟨bn, 0, none⟩)) = some (.int .i64 n) := by simp only [aLoad_g, zDk, pd_eql, pd_neq, pd_eql0, pd_neq0, g1]; rfl
      have l2 : aLoad Tryz.prog m3 33 (.pointer (some ⟨be, 0, none⟩)) = some (.int .i64 e) := by simp only [aLoad_g, zDk, pd_eql, pd_neq, pd_eql0, pd_neq0, g2]; rfl
      simp only [sAnswer, sAnswer.sRes, h4, h5, l1, l2]
    refine ⟨.inl rfl, SW_seq (SW_region ?_)⟩
    simp only [zS, reduceIte, Nat.reduceLT, Int.reduceToNat, Int.reduceLE, Int.reduceEq, Int.reduceLT, Nat.reduceEqDiff, Nat.reduceAdd, zDk, pd_eql, pd_neq, pd_eql0, pd_neq0, zZ, ge]
    refine SW_cond (e != 0) (by rfl) (fun h => SW_region ?_) (fun h => SW_skip ?_)
    · have h : e ≠ 0 := by simpa using h
      simp only [zS, reduceIte, Nat.reduceLT, Int.reduceToNat, Int.reduceLE, Int.reduceEq, Int.reduceLT, Nat.reduceEqDiff, Nat.reduceAdd, zDk, pd_eql, pd_neq, pd_eql0, pd_neq0, zZ, gn]
      refine ⟨.inr trivial, _, hans _ 0 e (Mem.get_set_same gn _) (by rw [Mem.get_set_ne (by omega)]; exact ge), ?_⟩
      rw [gE, if_neg h]
      refine ⟨rfl, gd.only (Only.set (l := [bn]) (by simp) _) (by simp; omega) (by simp; omega) (by simp; omega), fun b x hb hx => ?_, by rw [Mem.size_set]; omega⟩
      rw [Mem.get_set_ne (by have := get_live hx; omega)]
      exact go b x hb hx
    · have h : e = 0 := by simpa using h
      simp only [zS, reduceIte, Nat.reduceLT, Int.reduceToNat, Int.reduceLE, Int.reduceEq, Int.reduceLT, Nat.reduceEqDiff, Nat.reduceAdd, zDk, pd_eql, pd_neq, pd_eql0, pd_neq0, zZ]
      refine ⟨.inr trivial, _, hans _ n e gn ge, ?_⟩
      rw [gE, if_pos h]
      exact ⟨rfl, gd, go, by omega⟩
  clear hQ
  intro D
  refine SW_seq (SW_seq (SW_region ?_))
  simp only [zS, reduceIte, Nat.reduceLT, Int.reduceToNat, Int.reduceLE, Int.reduceEq, Int.reduceLT, Nat.reduceEqDiff, Nat.reduceAdd, zDk, pd_eql, pd_neq, pd_eql0, pd_neq0, zZ]
  refine ⟨by kernel_rfl, _, last_spec M1 p q g d hd1 i, ?_⟩
  rintro _ M9 ⟨rfl, e9⟩; replace e9 := e9.symm; subst e9
  obtain ⟨N, hN⟩ : ∃ N, N = (d.lastE i).1 := ⟨_, rfl⟩
  obtain ⟨e, he⟩ : ∃ e, e = (d.lastE i).2 := ⟨_, rfl⟩
  unfold Dsk.nextE at hE
  rw [← hN, ← he] at hE ⊢
  have sne : ∀ (m : Mem) (x : Option Blk), (m.set bn x).get be = m.get be := fun m x => Mem.get_set_ne (by omega) x
  have sen : ∀ (m : Mem) (x : Option Blk), (m.set be x).get bn = m.get bn := fun m x => Mem.get_set_ne (by omega) x
  -- a memory in which both are told
  have upd : ∀ (m : Mem) (d' : Dsk) (n e n' e' : Int), m.get bn = some (.cells false s1 [.int .i64 n]) → m.get be = some (.cells false s2 [.int .i64 e]) → DskAt m p q g d' → Only [p, q, g] M m → M.size ≤ m.size →
      ∃ m2, m2 = (m.set bn (some (.cells false s1 [.int .i64 n']))).set be (some (.cells false s2 [.int .i64 e'])) ∧ m2.get bn = some (.cells false s1 [.int .i64 n']) ∧ m2.get be = some (.cells false s2 [.int .i64 e']) ∧ DskAt m2 p q g d' ∧ Only [p, q, g] M m2 ∧ M.size ≤ m2.size := fun m d' n e n' e' gn ge gd go gs => by
    refine ⟨_, rfl, by rw [sen]; exact Mem.get_set_same gn _, Mem.get_set_same (by rw [sne]; exact ge) _, (gd.only (Only.set (l := [bn]) (by simp) _) (by simp; omega) (by simp; omega) (by simp; omega)).only (Only.set (l := [be]) (by simp) _) (by simp; omega) (by simp; omega) (by simp; omega), fun b x hb hx => ?_, by rw [Mem.size_set, Mem.size_set]; omega⟩
    have := get_live hx
    rw [Mem.get_set_ne (by omega), Mem.get_set_ne (by omega)]
    exact go b x hb hx
  have updN : ∀ (m : Mem) (d' : Dsk) (n e n' : Int), m.get bn = some (.cells false s1 [.int .i64 n]) → m.get be = some (.cells false s2 [.int .i64 e]) → DskAt m p q g d' → Only [p, q, g] M m → M.size ≤ m.size →
      ∃ m2, m2 = m.set bn (some (.cells false s1 [.int .i64 n'])) ∧ m2.get bn = some (.cells false s1 [.int .i64 n']) ∧ m2.get be = some (.cells false s2 [.int .i64 e]) ∧ DskAt m2 p q g d' ∧ Only [p, q, g] M m2 ∧ M.size ≤ m2.size := fun m d' n e n' gn ge gd go gs => by
    refine ⟨_, rfl, Mem.get_set_same gn _, by rw [sne]; exact ge, gd.only (Only.set (l := [bn]) (by simp) _) (by simp; omega) (by simp; omega) (by simp; omega), fun b x hb hx => ?_, by rw [Mem.size_set]; omega⟩
    have := get_live hx
    rw [Mem.get_set_ne (by omega)]
    exact go b x hb hx
  have updE : ∀ (m : Mem) (d' : Dsk) (n e e' : Int), m.get bn = some (.cells false s1 [.int .i64 n]) → m.get be = some (.cells false s2 [.int .i64 e]) → DskAt m p q g d' → Only [p, q, g] M m → M.size ≤ m.size →
      ∃ m2, m2 = m.set be (some (.cells false s2 [.int .i64 e'])) ∧ m2.get bn = some (.cells false s1 [.int .i64 n]) ∧ m2.get be = some (.cells false s2 [.int .i64 e']) ∧ DskAt m2 p q g d' ∧ Only [p, q, g] M m2 ∧ M.size ≤ m2.size := fun m d' n e e' gn ge gd go gs => by
    refine ⟨_, rfl, by rw [sen]; exact gn, Mem.get_set_same ge _, gd.only (Only.set (l := [be]) (by simp) _) (by simp; omega) (by simp; omega) (by simp; omega), fun b x hb hx => ?_, by rw [Mem.size_set]; omega⟩
    have := get_live hx
    rw [Mem.get_set_ne (by omega)]
    exact go b x hb hx
  have go1 : Only [p, q, g] M M1 := fun b x _ hx => hold1 b x hx
  obtain ⟨M2, hM2, hn2, he2, hd2, go2, gs2⟩ := upd M1 d 0 0 N e hn1 he1 hd1 go1 (by omega)
  simp only [zS, reduceIte, Nat.reduceLT, Int.reduceToNat, Int.reduceLE, Int.reduceEq, Int.reduceLT, Nat.reduceEqDiff, Nat.reduceAdd, zDk, pd_eql, pd_neq, pd_eql0, pd_neq0, zZ, hn1, sne, he1]
  rw [← hM2]
  refine SW_seq (SW_region ?_)
  simp only [zS, reduceIte, Nat.reduceLT, Int.reduceToNat, Int.reduceLE, Int.reduceEq, Int.reduceLT, Nat.reduceEqDiff, Nat.reduceAdd, zDk, pd_eql, pd_neq, pd_eql0, pd_neq0, zZ, he2]
  refine SW_cond (e != 0) (by rfl) (fun h => SW_seq (SW_draw4L hmix 2 [1] (by kernel_rfl) ?_)) (fun h => SW_skip ?_)
  · have h : e ≠ 0 := by simpa using h
    rw [if_pos h] at hE
    obtain ⟨M3, hM3, hn3, he3, hd3, go3, gs3⟩ := upd M2 d N e N e hn2 he2 hd2 go2 gs2
    simp only [zS, reduceIte, Nat.reduceLT, Int.reduceToNat, Int.reduceLE, Int.reduceEq, Int.reduceLT, Nat.reduceEqDiff, Nat.reduceAdd, zDk, pd_eql, pd_neq, pd_eql0, pd_neq0, zZ, hn2, he2, sQB, idleOK, sne, Option.bind_some]
    refine ⟨⟨_, rfl, rfl⟩, ?_⟩
    rw [← hM3]
    refine SW_ret ?_
    simp only [zS, reduceIte, Nat.reduceLT, Int.reduceToNat, Int.reduceLE, Int.reduceEq, Int.reduceLT, Nat.reduceEqDiff, Nat.reduceAdd, zDk, pd_eql, pd_neq, pd_eql0, pd_neq0, zZ]
    exact close _ M3 d N e rfl rfl hn3 he3 hd3 go3 gs3 (by rw [hE, if_neg h])
  · have h : e = 0 := by simpa using h
    rw [if_neg (by simp [h])] at hE
    simp only [zS, reduceIte, Nat.reduceLT, Int.reduceToNat, Int.reduceLE, Int.reduceEq, Int.reduceLT, Nat.reduceEqDiff, Nat.reduceAdd, zDk, pd_eql, pd_neq, pd_eql0, pd_neq0, zZ]
    have hNr : 0 ≤ N ∧ N ≤ 4294967295 := by rw [hN]; exact lastE_range d i
    have w1 : IntKind.i64.wrap (N + 1) = N + 1 := wri (by omega) (by omega)
    obtain ⟨M3, hM3, hn3, he3, hd3, go3, gs3⟩ := updN M2 d N e (N + 1) hn2 he2 hd2 go2 gs2
    refine SW_seq (SW_seq (SW_region ?_))
    simp only [zS, reduceIte, Nat.reduceLT, Int.reduceToNat, Int.reduceLE, Int.reduceEq, Int.reduceLT, Nat.reduceEqDiff, Nat.reduceAdd, zDk, pd_eql, pd_neq, pd_eql0, pd_neq0, zZ, hn2, w1]
    rw [← hM3]
    refine SW_seq (SW_region ?_)
    simp only [zS, reduceIte, Nat.reduceLT, Int.reduceToNat, Int.reduceLE, Int.reduceEq, Int.reduceLT, Nat.reduceEqDiff, Nat.reduceAdd, zDk, pd_eql, pd_neq, pd_eql0, pd_neq0, zZ, hn3]
    refine SW_cond (decide (N + 1 > 4294967295)) (by rfl) (fun h => SW_seq (SW_region ?_)) (fun h => SW_skip ?_)
    · have h := of_decide_eq_true h
      rw [if_pos (by omega)] at hE
      obtain ⟨M4, hM4, hn4, he4, hd4, go4, gs4⟩ := upd M3 d (N + 1) e (N + 1) 3 hn3 he3 hd3 go3 gs3
      simp only [zS, reduceIte, Nat.reduceLT, Int.reduceToNat, Int.reduceLE, Int.reduceEq, Int.reduceLT, Nat.reduceEqDiff, Nat.reduceAdd, zDk, pd_eql, pd_neq, pd_eql0, pd_neq0, zZ, hn3, sne, he3]
      rw [← hM4]
      refine SW_ret ?_
      simp only [zS, reduceIte, Nat.reduceLT, Int.reduceToNat, Int.reduceLE, Int.reduceEq, Int.reduceLT, Nat.reduceEqDiff, Nat.reduceAdd, zDk, pd_eql, pd_neq, pd_eql0, pd_neq0, zZ]
      exact close _ M4 d (N + 1) 3 rfl rfl hn4 he4 hd4 go4 gs4 (by rw [hE]; rfl)
    · have h := of_decide_eq_false h
      rw [if_neg (by omega)] at hE
      simp only [zS, reduceIte, Nat.reduceLT, Int.reduceToNat, Int.reduceLE, Int.reduceEq, Int.reduceLT, Nat.reduceEqDiff, Nat.reduceAdd, zDk, pd_eql, pd_neq, pd_eql0, pd_neq0, zZ]
      refine SW_seq (SW_seq (SW_region ?_))
      simp only [zS, reduceIte, Nat.reduceLT, Int.reduceToNat, Int.reduceLE, Int.reduceEq, Int.reduceLT, Nat.reduceEqDiff, Nat.reduceAdd, zDk, pd_eql, pd_neq, pd_eql0, pd_neq0, zZ, hn3]
      refine ⟨by kernel_rfl, _, text_spec (N + 1) _, ?_⟩
      rintro _ M9 ⟨rfl, e9⟩; replace e9 := e9.symm; subst e9
      simp only [zS, reduceIte, Nat.reduceLT, Int.reduceToNat, Int.reduceLE, Int.reduceEq, Int.reduceLT, Nat.reduceEqDiff, Nat.reduceAdd, zDk, pd_eql, pd_neq, pd_eql0, pd_neq0, zZ]
      refine ⟨by kernel_rfl, _, write_spec M3 p q g d hd3 i (epochText (N + 1)) (by unfold epochText; rw [List.length_append, Sha.fixed_length]; decide), ?_⟩
      rintro _ M4 ⟨rfl, hd4, go4, gs4⟩
      obtain ⟨W, hW⟩ : ∃ W, W = d.write i (epochText (N + 1)) := ⟨_, rfl⟩
      rw [← hW] at hE hd4 ⊢
      have hn4 := go4 _ _ (by simp; omega) hn3
      have he4 := go4 _ _ (by simp; omega) he3
      have go4' := go3.trans (go4.mono (l' := [p, q, g]) (by simp))
      obtain ⟨M5, hM5, hn5, he5, hd5, go5, gs5⟩ := updE M4 W.1 (N + 1) e W.2 hn4 he4 hd4 go4' (by omega)
      simp only [zS, reduceIte, Nat.reduceLT, Int.reduceToNat, Int.reduceLE, Int.reduceEq, Int.reduceLT, Nat.reduceEqDiff, Nat.reduceAdd, zDk, pd_eql, pd_neq, pd_eql0, pd_neq0, zZ, he4]
      rw [← hM5]
      refine SW_seq (SW_region ?_)
      simp only [zS, reduceIte, Nat.reduceLT, Int.reduceToNat, Int.reduceLE, Int.reduceEq, Int.reduceLT, Nat.reduceEqDiff, Nat.reduceAdd, zDk, pd_eql, pd_neq, pd_eql0, pd_neq0, zZ, he5]
      refine SW_cond (W.2 != 0) (by rfl) (fun h => SW_seq (SW_draw4L hmix 2 [1] (by kernel_rfl) ?_)) (fun h => SW_skip ?_)
      · have h : W.2 ≠ 0 := by simpa using h
        rw [if_pos h] at hE
        obtain ⟨M6, hM6, hn6, he6, hd6, go6, gs6⟩ := upd M5 W.1 (N + 1) W.2 (N + 1) W.2 hn5 he5 hd5 go5 gs5
        simp only [zS, reduceIte, Nat.reduceLT, Int.reduceToNat, Int.reduceLE, Int.reduceEq, Int.reduceLT, Nat.reduceEqDiff, Nat.reduceAdd, zDk, pd_eql, pd_neq, pd_eql0, pd_neq0, zZ, hn5, he5, sQB, idleOK, sne, Option.bind_some]
        refine ⟨⟨_, rfl, rfl⟩, ?_⟩
        rw [← hM6]
        refine SW_ret ?_
        simp only [zS, reduceIte, Nat.reduceLT, Int.reduceToNat, Int.reduceLE, Int.reduceEq, Int.reduceLT, Nat.reduceEqDiff, Nat.reduceAdd, zDk, pd_eql, pd_neq, pd_eql0, pd_neq0, zZ]
        exact close _ M6 W.1 (N + 1) W.2 rfl rfl hn6 he6 hd6 go6 gs6 (by rw [hE, if_neg h])
      · have h : W.2 = 0 := by simpa using h
        rw [if_neg (by simp [h])] at hE
        simp only [zS, reduceIte, Nat.reduceLT, Int.reduceToNat, Int.reduceLE, Int.reduceEq, Int.reduceLT, Nat.reduceEqDiff, Nat.reduceAdd, zDk, pd_eql, pd_neq, pd_eql0, pd_neq0, zZ]
        refine SW_seq (SW_draw6L hmix 2 [0] (by kernel_rfl) ?_)
        simp only [zS, reduceIte, Nat.reduceLT, Int.reduceToNat, Int.reduceLE, Int.reduceEq, Int.reduceLT, Nat.reduceEqDiff, Nat.reduceAdd, zDk, pd_eql, pd_neq, pd_eql0, pd_neq0, zZ, hn5, sQB6]
        refine ⟨by kernel_rfl, _, sync_spec M5 p q g W.1 hd5, ?_⟩
        rintro _ M6 ⟨rfl, hd6, go6, gs6⟩
        have hn6 := go6 _ _ (by simp; omega) hn5
        have he6 := go6 _ _ (by simp; omega) he5
        obtain ⟨Y, hY⟩ : ∃ Y, Y = W.1.sync := ⟨_, rfl⟩
        rw [← hY] at hE hd6 ⊢
        obtain ⟨M7, hM7, hn7, he7, hd7, go7, gs7⟩ := upd M6 Y.1 (N + 1) W.2 (N + 1) Y.2 hn6 he6 hd6 (go5.trans go6) (by omega)
        simp only [zS, reduceIte, Nat.reduceLT, Int.reduceToNat, Int.reduceLE, Int.reduceEq, Int.reduceLT, Nat.reduceEqDiff, Nat.reduceAdd, zDk, pd_eql, pd_neq, pd_eql0, pd_neq0, zZ, hn6, he6, idleOK, sne, Option.bind_some]
        refine ⟨⟨.int .i64 (N + 1), by rw [hn5]; rfl, rfl⟩, ?_⟩
        rw [← hM7]
        refine SW_ret ?_
        refine close _ M7 Y.1 (N + 1) Y.2 rfl rfl hn7 he7 hd7 go7 gs7 ?_
        rw [hE]
        by_cases hy : Y.2 = 0
        · rw [if_neg (by simp [hy]), if_pos hy, hy]
        · rw [if_pos hy, if_neg hy]
end Go.Proofs.YtmnebimijlnlkaaGreatDoor
