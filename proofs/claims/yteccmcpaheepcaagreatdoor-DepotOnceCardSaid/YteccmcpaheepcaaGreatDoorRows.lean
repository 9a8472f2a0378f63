/-
  NARROWER THAN 'FOR EVERY INPUT', by the rows' own cells (each row's printed sentence says how): TidySmall: laid · DepotForged: laid · DepotSmall: laid · DepotOnce: laid · DepotStaged: laid · DepotVisible: laid · DepotAgain: laid · DepotPlays: laid.
  DERIVED. THE GIVEN ROWS OF THIS SEAT. 8 by the template 'for every input the law returns true; each argument reads behind the call as it read before'; 0 by the template 'total and deterministic' (their statements: YteccmcpaheepcaaGreatDoorTotals.lean).
  GIVEN WITH THE SEED: the statements are not yours to turn. If you find one false, say at which input.
  Laid BY PROGRAM, IN A SANDBOX (cutbox-rows.mjs): the forced cells as the released guide's own fill.sh prints them over the translation 7ec2b5a33335bf49… (all of the seat's roots in one cut). By AI agents, Wed Nov 11 2026. No macro, syntax, notation, axiom, sorry.
-/
import Derived.Test.YteccmcpaheepcaaGreatDoorChecked
import GoSem.PinnedTables
import GoSem.Claim
import GoSem.ClaimJoined
import GoSem.ClaimMapViews
import Derived.JoinedTies
import Derived.KernelRfl
namespace Go.Proofs.YteccmcpaheepcaaGreatDoor
/- THE CELL 'sum', in the pinned program and in every row, IS THE sha256 OF THE DUMP (.gsa) THAT YteccmcpaheepcaaGreatDoorProg.lean LOADS. Nothing in Lean hashes anything: it is a label: what it is worth is what the hold of that sum in a sandbox is worth. -/
noncomputable def Tryz.pinned : Pinned := { name := "yteccmcpaheepcaagreatdoor", sum := "7ec2b5a33335bf491c12cabad4eecfa06b5b4de6fa4b7eacc969d24d6c7064df", checked := Tryz.checked }
namespace Rows
def none {H : Type} : Left H := { results := [], args := [] }

/- WHAT THE LISTED PACKAGE-LEVEL VARIABLES READ AS WHEN THE CALL BEGINS. Each datum BY PROGRAM (the guide's laid-datum.mjs) off the statement by which the dump's own 'gosem.cut.vars' lays the variable. In a bare row this is a premise. The card (YteccmcpaheepcaaGreatDoorCards.lean) ties it to the program's text. -/
def laid_unicode_utf8_acceptRanges {H : Type} : DataW H := .agg [.agg [.lit (.int .u8 128), .lit (.int .u8 191)], .agg [.lit (.int .u8 160), .lit (.int .u8 191)], .agg [.lit (.int .u8 128), .lit (.int .u8 159)], .agg [.lit (.int .u8 144), .lit (.int .u8 191)], .agg [.lit (.int .u8 128), .lit (.int .u8 143)], .agg [.lit (.int .u8 0), .lit (.int .u8 0)], .agg [.lit (.int .u8 0), .lit (.int .u8 0)], .agg [.lit (.int .u8 0), .lit (.int .u8 0)], .agg [.lit (.int .u8 0), .lit (.int .u8 0)], .agg [.lit (.int .u8 0), .lit (.int .u8 0)], .agg [.lit (.int .u8 0), .lit (.int .u8 0)], .agg [.lit (.int .u8 0), .lit (.int .u8 0)], .agg [.lit (.int .u8 0), .lit (.int .u8 0)], .agg [.lit (.int .u8 0), .lit (.int .u8 0)], .agg [.lit (.int .u8 0), .lit (.int .u8 0)], .agg [.lit (.int .u8 0), .lit (.int .u8 0)]]
/-- One of Go's own tables, pinned by name: the form's constant. -/
def laid_unicode_utf8_first : DataW Unit := Go.Pinned.utf8First

/-- 'sledgelaw42.TidySmall': WHATEVER THE INPUT: true; the input reads as it did. -/
def tidySmallSpec : ChangeSpec := { name := "tidySmall", fn := fun _ => fun
  | [d1, d2] => { results := [.lit (.bool true)], args := [d1, d2] }
  | _ => none }
def tidySmallRow : OpenClaim := { program := "yteccmcpaheepcaagreatdoor", sum := "7ec2b5a33335bf491c12cabad4eecfa06b5b4de6fa4b7eacc969d24d6c7064df", func := "sledge/sledgelaw42.TidySmall", spec := "tidySmall", inPlace := ["internal/abi.NoEscape", "internal/bytealg.MakeNoZero", "internal/bytealg.IndexByteString", "internal/bytealg.IndexString"], unfollowed := true, recurses := true, named := ["unicode/utf8.first", "unicode/utf8.acceptRanges", "internal/bytealg.MaxLen"], apart := false, laid := [("unicode/utf8.acceptRanges", laid_unicode_utf8_acceptRanges), ("unicode/utf8.first", laid_unicode_utf8_first)] }
def TidySmallSaid : Prop := tidySmallRow.holds Tryz.pinned (OpenSpec.ofChange tidySmallSpec)

/-- ITS FALSE NEIGHBOUR: 'it returns false'. Refute it at one input. -/
def tidySmallWrong : ChangeSpec := { name := "tidySmall", fn := fun _ => fun
  | [d1, d2] => { results := [.lit (.bool false)], args := [d1, d2] }
  | _ => none }
def TidySmallWrongFalsely : Prop := tidySmallRow.holds Tryz.pinned (OpenSpec.ofChange tidySmallWrong)

/-- 'sledgelaw25.DepotForged': WHATEVER THE INPUT: true; the input reads as it did. -/
def depotForgedSpec : ChangeSpec := { name := "depotForged", fn := fun _ => fun
  | [d1, d2, d3] => { results := [.lit (.bool true)], args := [d1, d2, d3] }
  | _ => none }
def depotForgedRow : OpenClaim := { program := "yteccmcpaheepcaagreatdoor", sum := "7ec2b5a33335bf491c12cabad4eecfa06b5b4de6fa4b7eacc969d24d6c7064df", func := "sledge/sledgelaw25.DepotForged", spec := "depotForged", inPlace := ["internal/abi.NoEscape", "internal/bytealg.MakeNoZero", "internal/bytealg.IndexByteString", "internal/bytealg.IndexString"], unfollowed := true, recurses := true, named := ["unicode/utf8.first", "unicode/utf8.acceptRanges", "internal/bytealg.MaxLen"], apart := false, laid := [("unicode/utf8.acceptRanges", laid_unicode_utf8_acceptRanges), ("unicode/utf8.first", laid_unicode_utf8_first)] }
def DepotForgedSaid : Prop := depotForgedRow.holds Tryz.pinned (OpenSpec.ofChange depotForgedSpec)

/-- ITS FALSE NEIGHBOUR: 'it returns false'. Refute it at one input. -/
def depotForgedWrong : ChangeSpec := { name := "depotForged", fn := fun _ => fun
  | [d1, d2, d3] => { results := [.lit (.bool false)], args := [d1, d2, d3] }
  | _ => none }
def DepotForgedWrongFalsely : Prop := depotForgedRow.holds Tryz.pinned (OpenSpec.ofChange depotForgedWrong)

/-- 'sledgelaw25.DepotSmall': WHATEVER THE INPUT: true; the input reads as it did. -/
def depotSmallSpec : ChangeSpec := { name := "depotSmall", fn := fun _ => fun
  | [d1, d2, d3, d4] => { results := [.lit (.bool true)], args := [d1, d2, d3, d4] }
  | _ => none }
def depotSmallRow : OpenClaim := { program := "yteccmcpaheepcaagreatdoor", sum := "7ec2b5a33335bf491c12cabad4eecfa06b5b4de6fa4b7eacc969d24d6c7064df", func := "sledge/sledgelaw25.DepotSmall", spec := "depotSmall", inPlace := ["internal/abi.NoEscape", "internal/bytealg.MakeNoZero", "internal/bytealg.IndexByteString", "internal/bytealg.IndexString"], unfollowed := true, recurses := true, named := ["unicode/utf8.first", "unicode/utf8.acceptRanges", "internal/bytealg.MaxLen"], apart := false, laid := [("unicode/utf8.acceptRanges", laid_unicode_utf8_acceptRanges), ("unicode/utf8.first", laid_unicode_utf8_first)] }
def DepotSmallSaid : Prop := depotSmallRow.holds Tryz.pinned (OpenSpec.ofChange depotSmallSpec)

/-- ITS FALSE NEIGHBOUR: 'it returns false'. Refute it at one input. -/
def depotSmallWrong : ChangeSpec := { name := "depotSmall", fn := fun _ => fun
  | [d1, d2, d3, d4] => { results := [.lit (.bool false)], args := [d1, d2, d3, d4] }
  | _ => none }
def DepotSmallWrongFalsely : Prop := depotSmallRow.holds Tryz.pinned (OpenSpec.ofChange depotSmallWrong)

/-- 'sledgelaw25.DepotOnce': WHATEVER THE INPUT: true; the input reads as it did. -/
def depotOnceSpec : ChangeSpec := { name := "depotOnce", fn := fun _ => fun
  | [d1, d2, d3, d4, d5] => { results := [.lit (.bool true)], args := [d1, d2, d3, d4, d5] }
  | _ => none }
def depotOnceRow : OpenClaim := { program := "yteccmcpaheepcaagreatdoor", sum := "7ec2b5a33335bf491c12cabad4eecfa06b5b4de6fa4b7eacc969d24d6c7064df", func := "sledge/sledgelaw25.DepotOnce", spec := "depotOnce", inPlace := ["internal/abi.NoEscape", "internal/bytealg.MakeNoZero", "internal/bytealg.IndexByteString", "internal/bytealg.IndexString"], unfollowed := true, recurses := true, named := ["unicode/utf8.first", "unicode/utf8.acceptRanges", "internal/bytealg.MaxLen"], apart := false, laid := [("unicode/utf8.acceptRanges", laid_unicode_utf8_acceptRanges), ("unicode/utf8.first", laid_unicode_utf8_first)] }
def DepotOnceSaid : Prop := depotOnceRow.holds Tryz.pinned (OpenSpec.ofChange depotOnceSpec)

/-- ITS FALSE NEIGHBOUR: 'it returns false'. Refute it at one input. -/
def depotOnceWrong : ChangeSpec := { name := "depotOnce", fn := fun _ => fun
  | [d1, d2, d3, d4, d5] => { results := [.lit (.bool false)], args := [d1, d2, d3, d4, d5] }
  | _ => none }
def DepotOnceWrongFalsely : Prop := depotOnceRow.holds Tryz.pinned (OpenSpec.ofChange depotOnceWrong)

/-- 'sledgelaw25.DepotStaged': WHATEVER THE INPUT: true; the input reads as it did. -/
def depotStagedSpec : ChangeSpec := { name := "depotStaged", fn := fun _ => fun
  | [d1, d2, d3, d4, d5] => { results := [.lit (.bool true)], args := [d1, d2, d3, d4, d5] }
  | _ => none }
def depotStagedRow : OpenClaim := { program := "yteccmcpaheepcaagreatdoor", sum := "7ec2b5a33335bf491c12cabad4eecfa06b5b4de6fa4b7eacc969d24d6c7064df", func := "sledge/sledgelaw25.DepotStaged", spec := "depotStaged", inPlace := ["internal/abi.NoEscape", "internal/bytealg.MakeNoZero", "internal/bytealg.IndexByteString", "internal/bytealg.IndexString"], unfollowed := true, recurses := true, named := ["unicode/utf8.first", "unicode/utf8.acceptRanges", "internal/bytealg.MaxLen"], apart := false, laid := [("unicode/utf8.acceptRanges", laid_unicode_utf8_acceptRanges), ("unicode/utf8.first", laid_unicode_utf8_first)] }
def DepotStagedSaid : Prop := depotStagedRow.holds Tryz.pinned (OpenSpec.ofChange depotStagedSpec)

/-- ITS FALSE NEIGHBOUR: 'it returns false'. Refute it at one input. -/
def depotStagedWrong : ChangeSpec := { name := "depotStaged", fn := fun _ => fun
  | [d1, d2, d3, d4, d5] => { results := [.lit (.bool false)], args := [d1, d2, d3, d4, d5] }
  | _ => none }
def DepotStagedWrongFalsely : Prop := depotStagedRow.holds Tryz.pinned (OpenSpec.ofChange depotStagedWrong)

/-- 'sledgelaw25.DepotVisible': WHATEVER THE INPUT: true; the input reads as it did. -/
def depotVisibleSpec : ChangeSpec := { name := "depotVisible", fn := fun _ => fun
  | [d1, d2, d3, d4, d5] => { results := [.lit (.bool true)], args := [d1, d2, d3, d4, d5] }
  | _ => none }
def depotVisibleRow : OpenClaim := { program := "yteccmcpaheepcaagreatdoor", sum := "7ec2b5a33335bf491c12cabad4eecfa06b5b4de6fa4b7eacc969d24d6c7064df", func := "sledge/sledgelaw25.DepotVisible", spec := "depotVisible", inPlace := ["internal/abi.NoEscape", "internal/bytealg.MakeNoZero", "internal/bytealg.IndexByteString", "internal/bytealg.IndexString"], unfollowed := true, recurses := true, named := ["unicode/utf8.first", "unicode/utf8.acceptRanges", "internal/bytealg.MaxLen"], apart := false, laid := [("unicode/utf8.acceptRanges", laid_unicode_utf8_acceptRanges), ("unicode/utf8.first", laid_unicode_utf8_first)] }
def DepotVisibleSaid : Prop := depotVisibleRow.holds Tryz.pinned (OpenSpec.ofChange depotVisibleSpec)

/-- ITS FALSE NEIGHBOUR: 'it returns false'. Refute it at one input. -/
def depotVisibleWrong : ChangeSpec := { name := "depotVisible", fn := fun _ => fun
  | [d1, d2, d3, d4, d5] => { results := [.lit (.bool false)], args := [d1, d2, d3, d4, d5] }
  | _ => none }
def DepotVisibleWrongFalsely : Prop := depotVisibleRow.holds Tryz.pinned (OpenSpec.ofChange depotVisibleWrong)

/-- 'sledgelaw25.DepotAgain': WHATEVER THE INPUT: true; the input reads as it did. -/
def depotAgainSpec : ChangeSpec := { name := "depotAgain", fn := fun _ => fun
  | [d1, d2, d3, d4, d5] => { results := [.lit (.bool true)], args := [d1, d2, d3, d4, d5] }
  | _ => none }
def depotAgainRow : OpenClaim := { program := "yteccmcpaheepcaagreatdoor", sum := "7ec2b5a33335bf491c12cabad4eecfa06b5b4de6fa4b7eacc969d24d6c7064df", func := "sledge/sledgelaw25.DepotAgain", spec := "depotAgain", inPlace := ["internal/abi.NoEscape", "internal/bytealg.MakeNoZero", "internal/bytealg.IndexByteString", "internal/bytealg.IndexString", "maps.clone"], unfollowed := true, recurses := true, named := ["unicode/utf8.first", "unicode/utf8.acceptRanges", "internal/bytealg.MaxLen"], apart := false, laid := [("unicode/utf8.acceptRanges", laid_unicode_utf8_acceptRanges), ("unicode/utf8.first", laid_unicode_utf8_first)] }
def DepotAgainSaid : Prop := depotAgainRow.holds Tryz.pinned (OpenSpec.ofChange depotAgainSpec)

/-- ITS FALSE NEIGHBOUR: 'it returns false'. Refute it at one input. -/
def depotAgainWrong : ChangeSpec := { name := "depotAgain", fn := fun _ => fun
  | [d1, d2, d3, d4, d5] => { results := [.lit (.bool false)], args := [d1, d2, d3, d4, d5] }
  | _ => none }
def DepotAgainWrongFalsely : Prop := depotAgainRow.holds Tryz.pinned (OpenSpec.ofChange depotAgainWrong)

/-- 'sledgelaw25.DepotPlays': WHATEVER THE INPUT: true; the input reads as it did. -/
def depotPlaysSpec : ChangeSpec := { name := "depotPlays", fn := fun _ => fun
  | [d1, d2, d3, d4] => { results := [.lit (.bool true)], args := [d1, d2, d3, d4] }
  | _ => none }
def depotPlaysRow : OpenClaim := { program := "yteccmcpaheepcaagreatdoor", sum := "7ec2b5a33335bf491c12cabad4eecfa06b5b4de6fa4b7eacc969d24d6c7064df", func := "sledge/sledgelaw25.DepotPlays", spec := "depotPlays", inPlace := ["internal/abi.NoEscape", "internal/bytealg.MakeNoZero", "internal/bytealg.IndexByteString", "internal/bytealg.IndexString"], unfollowed := true, recurses := true, named := ["unicode/utf8.first", "unicode/utf8.acceptRanges", "internal/bytealg.MaxLen"], apart := false, laid := [("unicode/utf8.acceptRanges", laid_unicode_utf8_acceptRanges), ("unicode/utf8.first", laid_unicode_utf8_first)] }
def DepotPlaysSaid : Prop := depotPlaysRow.holds Tryz.pinned (OpenSpec.ofChange depotPlaysSpec)

/-- ITS FALSE NEIGHBOUR: 'it returns false'. Refute it at one input. -/
def depotPlaysWrong : ChangeSpec := { name := "depotPlays", fn := fun _ => fun
  | [d1, d2, d3, d4] => { results := [.lit (.bool false)], args := [d1, d2, d3, d4] }
  | _ => none }
def DepotPlaysWrongFalsely : Prop := depotPlaysRow.holds Tryz.pinned (OpenSpec.ofChange depotPlaysWrong)

/- THE SECOND FORM. 'bulk': how many values and letters a reading holds, each counted each time it is reached (what is shared counts as often as it is met; a slice's spare places count too). A statement '..UptoSaid' is the law's where the arguments, and the package variables that the reading takes, are together of bulk at most 1048576: NARROWER than '..Said'. Prove '..Said' where nothing that the law and all that it calls make is longer than what came in: it says more and counts as full. Else prove '..UptoSaid'. A law counts once. -/
mutual
def uptoBulk {H : Type} : DataW H → Nat
  | .lit (.string bytes) => bytes.length + 1
  | .lit _ => 1
  | .nil => 1
  | .ptr d => uptoBulk d + 1
  | .slice elems spare => uptoBulkAll elems + uptoBulkAll spare + 1
  | .agg parts => uptoBulkAll parts + 1
  | .iface _ d => uptoBulk d + 1
  | .map entries => uptoBulkEntries entries + 1
  | .held _ => 1
def uptoBulkAll {H : Type} : List (DataW H) → Nat
  | [] => 0
  | d :: r => uptoBulk d + uptoBulkAll r
def uptoBulkEntries {H : Type} : List (Lit × DataW H) → Nat
  | [] => 0
  | x :: r => uptoBulkEntry x + uptoBulkEntries r
def uptoBulkEntry {H : Type} : Lit × DataW H → Nat
  | (.string bytes, d) => bytes.length + uptoBulk d + 1
  | (_, d) => uptoBulk d + 1
 end
def uptoSmall : (H : Type) → List (DataW H) → Bool := fun _ ds => decide (uptoBulkAll ds ≤ 1048576)
def OpenSpec.upto (s : _root_.Go.ChangeSpec) : _root_.Go.OpenSpec := { _root_.Go.OpenSpec.ofChange s with cond := some uptoSmall }

/-- 'sledgelaw42.TidySmall', WHERE WHAT IT READS IS OF BULK AT MOST 1048576: true; the input reads as it did. -/
def tidySmallUptoRow : OpenClaim := { program := "yteccmcpaheepcaagreatdoor", sum := "7ec2b5a33335bf491c12cabad4eecfa06b5b4de6fa4b7eacc969d24d6c7064df", func := "sledge/sledgelaw42.TidySmall", spec := "tidySmall", inPlace := ["internal/abi.NoEscape", "internal/bytealg.MakeNoZero", "internal/bytealg.IndexByteString", "internal/bytealg.IndexString"], unfollowed := true, recurses := true, named := ["unicode/utf8.first", "unicode/utf8.acceptRanges", "internal/bytealg.MaxLen"], apart := false, laid := [("unicode/utf8.acceptRanges", laid_unicode_utf8_acceptRanges), ("unicode/utf8.first", laid_unicode_utf8_first)], narrowed := true }
def TidySmallUptoSaid : Prop := tidySmallUptoRow.holds Tryz.pinned (OpenSpec.upto tidySmallSpec)

/-- 'sledgelaw25.DepotForged', WHERE WHAT IT READS IS OF BULK AT MOST 1048576: true; the input reads as it did. -/
def depotForgedUptoRow : OpenClaim := { program := "yteccmcpaheepcaagreatdoor", sum := "7ec2b5a33335bf491c12cabad4eecfa06b5b4de6fa4b7eacc969d24d6c7064df", func := "sledge/sledgelaw25.DepotForged", spec := "depotForged", inPlace := ["internal/abi.NoEscape", "internal/bytealg.MakeNoZero", "internal/bytealg.IndexByteString", "internal/bytealg.IndexString"], unfollowed := true, recurses := true, named := ["unicode/utf8.first", "unicode/utf8.acceptRanges", "internal/bytealg.MaxLen"], apart := false, laid := [("unicode/utf8.acceptRanges", laid_unicode_utf8_acceptRanges), ("unicode/utf8.first", laid_unicode_utf8_first)], narrowed := true }
def DepotForgedUptoSaid : Prop := depotForgedUptoRow.holds Tryz.pinned (OpenSpec.upto depotForgedSpec)

/-- 'sledgelaw25.DepotSmall', WHERE WHAT IT READS IS OF BULK AT MOST 1048576: true; the input reads as it did. -/
def depotSmallUptoRow : OpenClaim := { program := "yteccmcpaheepcaagreatdoor", sum := "7ec2b5a33335bf491c12cabad4eecfa06b5b4de6fa4b7eacc969d24d6c7064df", func := "sledge/sledgelaw25.DepotSmall", spec := "depotSmall", inPlace := ["internal/abi.NoEscape", "internal/bytealg.MakeNoZero", "internal/bytealg.IndexByteString", "internal/bytealg.IndexString"], unfollowed := true, recurses := true, named := ["unicode/utf8.first", "unicode/utf8.acceptRanges", "internal/bytealg.MaxLen"], apart := false, laid := [("unicode/utf8.acceptRanges", laid_unicode_utf8_acceptRanges), ("unicode/utf8.first", laid_unicode_utf8_first)], narrowed := true }
def DepotSmallUptoSaid : Prop := depotSmallUptoRow.holds Tryz.pinned (OpenSpec.upto depotSmallSpec)

/-- 'sledgelaw25.DepotOnce', WHERE WHAT IT READS IS OF BULK AT MOST 1048576: true; the input reads as it did. -/
def depotOnceUptoRow : OpenClaim := { program := "yteccmcpaheepcaagreatdoor", sum := "7ec2b5a33335bf491c12cabad4eecfa06b5b4de6fa4b7eacc969d24d6c7064df", func := "sledge/sledgelaw25.DepotOnce", spec := "depotOnce", inPlace := ["internal/abi.NoEscape", "internal/bytealg.MakeNoZero", "internal/bytealg.IndexByteString", "internal/bytealg.IndexString"], unfollowed := true, recurses := true, named := ["unicode/utf8.first", "unicode/utf8.acceptRanges", "internal/bytealg.MaxLen"], apart := false, laid := [("unicode/utf8.acceptRanges", laid_unicode_utf8_acceptRanges), ("unicode/utf8.first", laid_unicode_utf8_first)], narrowed := true }
def DepotOnceUptoSaid : Prop := depotOnceUptoRow.holds Tryz.pinned (OpenSpec.upto depotOnceSpec)

/-- 'sledgelaw25.DepotStaged', WHERE WHAT IT READS IS OF BULK AT MOST 1048576: true; the input reads as it did. -/
def depotStagedUptoRow : OpenClaim := { program := "yteccmcpaheepcaagreatdoor", sum := "7ec2b5a33335bf491c12cabad4eecfa06b5b4de6fa4b7eacc969d24d6c7064df", func := "sledge/sledgelaw25.DepotStaged", spec := "depotStaged", inPlace := ["internal/abi.NoEscape", "internal/bytealg.MakeNoZero", "internal/bytealg.IndexByteString", "internal/bytealg.IndexString"], unfollowed := true, recurses := true, named := ["unicode/utf8.first", "unicode/utf8.acceptRanges", "internal/bytealg.MaxLen"], apart := false, laid := [("unicode/utf8.acceptRanges", laid_unicode_utf8_acceptRanges), ("unicode/utf8.first", laid_unicode_utf8_first)], narrowed := true }
def DepotStagedUptoSaid : Prop := depotStagedUptoRow.holds Tryz.pinned (OpenSpec.upto depotStagedSpec)

/-- 'sledgelaw25.DepotVisible', WHERE WHAT IT READS IS OF BULK AT MOST 1048576: true; the input reads as it did. -/
def depotVisibleUptoRow : OpenClaim := { program := "yteccmcpaheepcaagreatdoor", sum := "7ec2b5a33335bf491c12cabad4eecfa06b5b4de6fa4b7eacc969d24d6c7064df", func := "sledge/sledgelaw25.DepotVisible", spec := "depotVisible", inPlace := ["internal/abi.NoEscape", "internal/bytealg.MakeNoZero", "internal/bytealg.IndexByteString", "internal/bytealg.IndexString"], unfollowed := true, recurses := true, named := ["unicode/utf8.first", "unicode/utf8.acceptRanges", "internal/bytealg.MaxLen"], apart := false, laid := [("unicode/utf8.acceptRanges", laid_unicode_utf8_acceptRanges), ("unicode/utf8.first", laid_unicode_utf8_first)], narrowed := true }
def DepotVisibleUptoSaid : Prop := depotVisibleUptoRow.holds Tryz.pinned (OpenSpec.upto depotVisibleSpec)

/-- 'sledgelaw25.DepotAgain', WHERE WHAT IT READS IS OF BULK AT MOST 1048576: true; the input reads as it did. -/
def depotAgainUptoRow : OpenClaim := { program := "yteccmcpaheepcaagreatdoor", sum := "7ec2b5a33335bf491c12cabad4eecfa06b5b4de6fa4b7eacc969d24d6c7064df", func := "sledge/sledgelaw25.DepotAgain", spec := "depotAgain", inPlace := ["internal/abi.NoEscape", "internal/bytealg.MakeNoZero", "internal/bytealg.IndexByteString", "internal/bytealg.IndexString", "maps.clone"], unfollowed := true, recurses := true, named := ["unicode/utf8.first", "unicode/utf8.acceptRanges", "internal/bytealg.MaxLen"], apart := false, laid := [("unicode/utf8.acceptRanges", laid_unicode_utf8_acceptRanges), ("unicode/utf8.first", laid_unicode_utf8_first)], narrowed := true }
def DepotAgainUptoSaid : Prop := depotAgainUptoRow.holds Tryz.pinned (OpenSpec.upto depotAgainSpec)

/-- 'sledgelaw25.DepotPlays', WHERE WHAT IT READS IS OF BULK AT MOST 1048576: true; the input reads as it did. -/
def depotPlaysUptoRow : OpenClaim := { program := "yteccmcpaheepcaagreatdoor", sum := "7ec2b5a33335bf491c12cabad4eecfa06b5b4de6fa4b7eacc969d24d6c7064df", func := "sledge/sledgelaw25.DepotPlays", spec := "depotPlays", inPlace := ["internal/abi.NoEscape", "internal/bytealg.MakeNoZero", "internal/bytealg.IndexByteString", "internal/bytealg.IndexString"], unfollowed := true, recurses := true, named := ["unicode/utf8.first", "unicode/utf8.acceptRanges", "internal/bytealg.MaxLen"], apart := false, laid := [("unicode/utf8.acceptRanges", laid_unicode_utf8_acceptRanges), ("unicode/utf8.first", laid_unicode_utf8_first)], narrowed := true }
def DepotPlaysUptoSaid : Prop := depotPlaysUptoRow.holds Tryz.pinned (OpenSpec.upto depotPlaysSpec)

end Rows
end Go.Proofs.YteccmcpaheepcaaGreatDoor
