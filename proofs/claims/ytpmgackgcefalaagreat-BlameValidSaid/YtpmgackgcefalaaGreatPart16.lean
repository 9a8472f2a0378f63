/-
  The example: it comes out true.
-/
import Derived.Test.YtpmgackgcefalaaGreatPart15
import Derived.Test.YtpmgackgcefalaaGreatPart05
set_option linter.unusedSimpArgs false
set_option linter.unusedVariables false
set_option linter.unusedSectionVars false
set_option linter.unnecessarySimpa false
set_option linter.defProp false
namespace Go.Proofs.YtpmgackgcefalaaGreat.Ex
open Go Go.RowKit Abs
set_option maxRecDepth 100000
def macL : List UInt8 := [214, 162, 101, 238, 90, 251, 113, 98, 220, 230, 155, 211, 124, 230, 232, 216, 172, 222, 249, 211, 122, 121, 111, 213, 3, 163, 52, 47, 8, 133, 108, 177]
def bmsg : List UInt8 := [0, 0, 0, 0, 1, 89, 7, 69, 121, 216, 104, 186, 174, 19, 200, 196, 5, 145, 117, 153, 67, 99, 222, 58, 71, 90, 9, 173, 67, 147, 225, 6, 37, 73, 147, 168, 83, 114, 145, 191, 156, 90, 93, 162, 84, 170, 41, 108, 214, 28, 161, 144, 146, 3, 34, 99, 210, 225, 26, 36, 14, 187, 58, 53, 127, 112, 242, 32, 154, 200, 253, 62, 198, 133, 56, 145, 142, 88, 26, 59, 179, 161, 154, 222, 248, 234, 12, 3, 224, 204, 251, 125, 105, 60, 63, 220, 69, 216, 147, 161, 86, 78, 245, 5, 225, 1, 152, 235, 166, 122, 157, 212, 64, 76, 152, 106, 75, 6, 228, 98, 129, 49, 24, 31, 173, 23, 127, 216, 118, 214, 221, 228, 27, 241, 152, 244, 116, 204, 239, 21, 180, 91, 73, 52, 254, 10, 228, 122, 246, 7, 18, 95, 238, 159, 59, 150, 100, 113, 126, 207, 188, 138, 239, 79, 8, 44, 41, 56, 186, 120, 208, 123, 174, 199, 147, 197, 198, 87, 28, 108, 142, 222, 28, 65, 127, 200, 200, 7, 245, 165, 101, 62, 27, 205, 39, 102]
def btagL : List UInt8 := [69, 190, 64, 80, 102, 55, 94, 198, 182, 41, 225, 133, 202, 242, 171, 165, 38, 226, 39, 135, 40, 25, 248, 107, 127, 140, 235, 169, 15, 40, 185, 218]
def headL : List UInt8 := [99, 92, 220, 172, 47, 209, 125, 152, 245, 28, 243, 212, 52, 67, 4, 67, 159, 212, 28, 67, 33, 199, 164, 24, 178, 211, 127, 217, 175, 83, 194, 69]
def headoL : List UInt8 := [173, 216, 77, 140, 67, 4, 71, 169, 96, 151, 0, 100, 220, 133, 88, 0, 35, 3, 142, 182, 150, 17, 80, 47, 176, 63, 156, 129, 240, 7, 7, 7]
def fieldsL : List UInt8 := [83, 76, 71, 49, 0, 0, 0, 7, 115, 97, 108, 116, 4, 5, 6, 7, 8, 9, 10, 11, 12, 13, 14, 15, 0, 1, 0, 0, 0, 5, 0, 0, 1, 244, 27, 72, 27, 65, 142, 154, 188, 222, 169, 230, 67, 197, 115, 136, 148, 41, 106, 128, 151, 25, 75, 188, 71, 37, 168, 56, 204, 49, 122, 247, 5, 23]
def leafM : List UInt8 := [0, 1, 89, 7, 69, 121, 216, 104, 186, 174, 19, 200, 196, 5, 145, 117, 153, 67, 99, 222, 58, 71, 90, 9, 173, 67, 147, 225, 6, 37, 73, 147, 168, 83, 114, 145, 191, 156, 90, 93, 162, 84, 170, 41, 108, 214, 28, 161, 144, 146, 3, 34, 99, 210, 225, 26, 36, 14, 187, 58, 53, 127, 112, 242, 32, 154, 200, 253, 62, 198, 133, 56, 145, 142, 88, 26, 59, 179, 161, 154, 222, 248, 234, 12, 3, 224, 204, 251, 125, 105, 60, 63, 220, 69, 216, 147, 161, 86, 78, 245, 5, 225, 1, 152, 235, 166, 122, 157, 212, 64, 76, 152, 106, 75, 6, 228, 98, 129, 49, 24, 31, 173, 23, 127, 216, 118, 214, 221, 228, 27, 241, 152, 244, 116, 204, 239, 21, 180, 91, 73, 52, 254, 10, 228, 122, 246, 7, 18, 95, 238, 159, 59, 150, 100, 113, 126, 207, 188, 138, 239, 79, 8, 44, 41, 56, 186, 120, 208, 123, 174, 199, 147, 197, 198, 87, 28, 108, 142, 222, 28, 65, 127, 200, 200, 7, 245, 165, 101, 62, 27, 205, 39, 102, 69, 190, 64, 80, 102, 55, 94, 198, 182, 41, 225, 133, 202, 242, 171, 165, 38, 226, 39, 135, 40, 25, 248, 107, 127, 140, 235, 169, 15, 40, 185, 218]
def othL : List UInt8 := [111, 116, 104, 101, 114]
noncomputable def tab : List (FuncId × List Value × Value) := [
  (84, [.string (str encL), .string (str nonceL), .int .i64 (.ofNat 1), .string (str chunkL)], .tuple #[.string (str cipherL), .int .i64 0]),
  (26, [.string (str [115]), .string (str salt)], keys1),
  (26, [.string (str [115]), .string (str [])], keys2),
  (51, [.string (str macL), .string (str bmsg)], .string (str btagL)),
  (51, [.string (str headL), .string (str fieldsL)], .string (str htagL)),
  (71, [.string (str leafM)], .string (str leafL)),
  (22, [.string (str [115]), .string (str [])], keys2),
  (22, [.string (str othL), .string (str [])], keyso),
  (21, [.string (str headL), h0.val], .int .i64 0),
  (21, [.string (str headoL), h0.val], .int .i64 4)]
theorem fl {xs : List Value} (h : xs.all (flat 3) = true) : ∀ x ∈ xs, flat 3 x = true := List.all_eq_true.1 h
theorem tab_known : ∀ e ∈ tab, Known Tryz.prog e.1 e.2.1 e.2.2 := by
  intro e he
  simp only [tab, List.mem_cons, List.not_mem_nil, or_false] at he
  rcases he with rfl | rfl | rfl | rfl | rfl | rfl | rfl | rfl | rfl | rfl
  · refine ⟨fl rfl, rfl, fun w => ?_⟩
    have h := Calls.of_flat_val (fl rfl) rfl (xor_spec ⟨[]⟩ (str encL) (str nonceL) (str chunkL) 1 rfl rfl (by decide) (by decide) (by decide)) w
    have e : Cha.xorN (str encL).data.toList (str nonceL).data.toList 1 (str chunkL).data.toList (str chunkL).size = cipherL := cipher
    rw [e] at h
    exact h
  · refine ⟨fl rfl, rfl, fun w => ?_⟩
    have h := rkeys_any (str [115]) (str salt) w (by decide) (by decide)
    have e : keysV (str [115]).data.toList (str salt).data.toList = keys1 := keys1_eq
    rw [e] at h
    exact h
  · refine ⟨fl rfl, rfl, fun w => ?_⟩
    have h := rkeys_any (str [115]) (str []) w (by decide) (by decide)
    have e : keysV (str [115]).data.toList (str []).data.toList = keys2 := keys2_eq
    rw [e] at h
    exact h
  · refine ⟨fl rfl, rfl, fun w => ?_⟩
    have h := rtag_any (str macL) (str bmsg) w (by decide) (by decide)
    have e : Sha.tag (str macL).data.toList (str bmsg).data.toList = btagL := btag
    rw [e] at h
    exact h
  · refine ⟨fl rfl, rfl, fun w => ?_⟩
    have h := rtag_any (str headL) (str fieldsL) w (by decide) (by decide)
    have e : Sha.tag (str headL).data.toList (str fieldsL).data.toList = htagL := htag
    rw [e] at h
    exact h
  · refine ⟨fl rfl, rfl, fun w => ?_⟩
    have h := rsum_any (str leafM) w (by decide)
    have e : Sha.sum (str leafM).data.toList = leafL := leaf
    rw [e] at h
    exact h
  · refine ⟨fl rfl, rfl, fun w => ?_⟩
    have h := keys_any (str [115]) (str []) w (by decide) (by decide)
    have e : keysV (str [115]).data.toList (str []).data.toList = keys2 := keys2_eq
    rw [e] at h
    exact h
  · refine ⟨fl rfl, rfl, fun w => ?_⟩
    have h := keys_any (str othL) (str []) w (by decide) (by decide)
    have e : keysV (str othL).data.toList (str []).data.toList = keyso := keyso_eq
    rw [e] at h
    exact h
  · refine ⟨fl rfl, rfl, fun w => ?_⟩
    have h := verify_any (str headL) h0 w (by decide)
    have e : h0.verify (str headL).data.toList = 0 := h0_ver
    rw [e] at h
    exact h
  · refine ⟨fl rfl, rfl, fun w => ?_⟩
    have h := verify_any (str headoL) h0 w (by decide)
    have e : h0.verify (str headoL).data.toList = 4 := h0_vero
    rw [e] at h
    exact h
def okTrue : Option (Value × FMem) → Bool
  | some (.bool true, _) => true
  | _ => false
def m0 : FMem := ⟨0, 0, .E⟩
theorem run : okTrue (fCall Tryz.prog (withQuarter (tabT tab)) 100000 60 6 [] m0) = true := by kernel_rfl
theorem awake_any (w : World) : Calls Tryz.prog 6 #[] w fun e w' => e = .returned (.bool true) ∧ Below w.heap.size w w' := by
  have hgood : Abs.Good Tryz.prog (fCall Tryz.prog (withQuarter (tabT tab)) 100000 60) := fCall_good hmix (withQuarter_good (tabT_good tab tab_known)) 100000 60
  have hr := run
  cases hc : fCall Tryz.prog (withQuarter (tabT tab)) 100000 60 6 [] m0 with
  | none => rw [hc] at hr; cases hr
  | some p =>
    obtain ⟨v, f'⟩ := p
    rw [hc] at hr
    have hv : v = .bool true := by
      unfold okTrue at hr
      split at hr
      · rename_i he; cases he; rfl
      · cases hr
    subst hv
    have hm : MR m0 ⟨[]⟩ := ⟨rfl, Nat.le_refl _, fun b x hb => by cases hb⟩
    obtain ⟨m', _, hs, _⟩ := hgood _ _ _ _ _ hc ⟨[]⟩ hm
    exact Calls.of_flat_val (xs := []) (fun x hx => by cases hx) rfl (hs.mono fun u m h => h.1) w
end Go.Proofs.YtpmgackgcefalaaGreat.Ex
