/-
  The walks of the document's answer for layer 2: a text with what stands behind it.
-/
import Derived.Test.YtabffcplbjaklaaGreatDoorPart11
set_option linter.unusedSimpArgs false
set_option linter.unusedVariables false
set_option linter.unusedSectionVars false
set_option linter.unnecessarySimpa false
set_option linter.defProp false
namespace Go.Proofs.YtabffcplbjaklaaGreatDoor
open Go.RowKit
def padS (m : List UInt8) (k : Nat) : List UInt8 := m ++ 0x80 :: List.replicate k 0
theorem padS_snoc (m : List UInt8) (k : Nat) : bytesV (padS m k) ++ [byteV 0] = bytesV (padS m (k + 1)) := by
  simp [bytesV, padS, List.replicate_succ']
theorem padS_length (m : List UInt8) (k : Nat) : (padS m k).length = m.length + 1 + k := by
  simp [padS]; omega
theorem pad_byte (n j : Nat) (hn : n ≤ 140737488355200) (hj : j < 8) : Value.int .u8 (bits BinOp.and IntKind.i64 (8 * (n : Int) / 2 ^ (8 * (7 - j))) 255 % 256) = byteV (UInt8.ofNat ((8 * n) >>> (56 - 8 * j))) := by
  have e : (8 * (n : Int) / 2 ^ (8 * (7 - j))) = ((8 * n / 2 ^ (8 * (7 - j)) : Nat) : Int) := by push_cast; rfl
  have hle : 8 * n / 2 ^ (8 * (7 - j)) ≤ 8 * n := Nat.div_le_self _ _
  have e2 := i64_and_nat (8 * n / 2 ^ (8 * (7 - j))) 255 (by omega) (by omega)
  rw [show 8 * n / 2 ^ (8 * (7 - j)) &&& 255 = 8 * n / 2 ^ (8 * (7 - j)) % 256 from Nat.and_two_pow_sub_one_eq_mod _ 8] at e2
  rw [e]
  unfold byteV
  congr 1
  refine (congrArg (· % 256) e2).trans ?_
  rw [UInt8.toNat_ofNat', Nat.shiftRight_eq_div_pow, show 56 - 8 * j = 8 * (7 - j) by omega]
  omega
theorem pad_snoc (q : List UInt8) (n j : Nat) (hn : n ≤ 140737488355200) (hj : j < 8) : bytesV (q ++ (Sha.be8 (8 * n)).take j) ++ [Value.int .u8 (bits BinOp.and IntKind.i64 (8 * (n : Int) / 2 ^ (8 * (7 - j))) 255 % 256)] = bytesV (q ++ (Sha.be8 (8 * n)).take (j + 1)) := by
  rw [pad_byte n j hn hj, List.take_add_one, be8_get _ _ hj]
  simp [bytesV]
end Go.Proofs.YtabffcplbjaklaaGreatDoor
