/-
  NARROWER THAN 'FOR EVERY INPUT', by the rows' own cells (each row's printed sentence says how): SecretValid: laid · SecretPuts: laid · SecretOrder: laid · SecretMay: loops, laid · SecretVisible: loops, laid · SecretLevels: loops, laid.
  DERIVED. THE GIVEN ROWS OF THIS SEAT. 6 by the template 'for every input the law returns true; each argument reads behind the call as it read before'; 0 by the template 'total and deterministic' (their statements: YtgloblokkejgmaaDoorTotals.lean).
  GIVEN WITH THE SEED: the statements are not yours to turn. If you find one false, say at which input.
  Laid BY PROGRAM, IN A SANDBOX (cutbox-rows.mjs): the forced cells as the released guide's own fill.sh prints them over the translation 644f3fe3e7c77a66… (all of the seat's roots in one cut). By AI agents, Wed Nov 11 2026. No macro, syntax, notation, axiom, sorry.
-/
import Derived.Test.YtgloblokkejgmaaDoorChecked
import GoSem.PinnedTables
import GoSem.Claim
import GoSem.ClaimJoined
import GoSem.ClaimMapViews
import Derived.JoinedTies
import Derived.KernelRfl
namespace Go.Proofs.YtgloblokkejgmaaDoor
/- THE CELL 'sum', in the pinned program and in every row, IS THE sha256 OF THE DUMP (.gsa) THAT YtgloblokkejgmaaDoorProg.lean LOADS. Nothing in Lean hashes anything: it is a label: what it is worth is what the hold of that sum in a sandbox is worth. -/
noncomputable def Tryd.pinned : Pinned := { name := "ytgloblokkejgmaadoor", sum := "644f3fe3e7c77a663bb4fb77ac7760d75e5df89c751af9f7507d58f4bcd94a85", checked := Tryd.checked }
namespace Rows
def none {H : Type} : Left H := { results := [], args := [] }

/- WHAT THE LISTED PACKAGE-LEVEL VARIABLES READ AS WHEN THE CALL BEGINS. Each datum BY PROGRAM (the guide's laid-datum.mjs) off the statement by which the dump's own 'gosem.cut.vars' lays the variable. In a bare row this is a premise. The card (YtgloblokkejgmaaDoorCards.lean) ties it to the program's text. -/
def laid_unicode_utf8_acceptRanges {H : Type} : DataW H := .agg [.agg [.lit (.int .u8 128), .lit (.int .u8 191)], .agg [.lit (.int .u8 160), .lit (.int .u8 191)], .agg [.lit (.int .u8 128), .lit (.int .u8 159)], .agg [.lit (.int .u8 144), .lit (.int .u8 191)], .agg [.lit (.int .u8 128), .lit (.int .u8 143)], .agg [.lit (.int .u8 0), .lit (.int .u8 0)], .agg [.lit (.int .u8 0), .lit (.int .u8 0)], .agg [.lit (.int .u8 0), .lit (.int .u8 0)], .agg [.lit (.int .u8 0), .lit (.int .u8 0)], .agg [.lit (.int .u8 0), .lit (.int .u8 0)], .agg [.lit (.int .u8 0), .lit (.int .u8 0)], .agg [.lit (.int .u8 0), .lit (.int .u8 0)], .agg [.lit (.int .u8 0), .lit (.int .u8 0)], .agg [.lit (.int .u8 0), .lit (.int .u8 0)], .agg [.lit (.int .u8 0), .lit (.int .u8 0)], .agg [.lit (.int .u8 0), .lit (.int .u8 0)]]
/-- One of Go's own tables, pinned by name: the form's constant. -/
def laid_unicode_utf8_first : DataW Unit := Go.Pinned.utf8First

/-- 'pipelinelaw41.SecretValid': WHATEVER THE INPUT: true; the input reads as it did. -/
def secretValidSpec : ChangeSpec := { name := "secretValid", fn := fun _ => fun
  | [d1, d2] => { results := [.lit (.bool true)], args := [d1, d2] }
  | _ => none }
def secretValidRow : OpenClaim := { program := "ytgloblokkejgmaadoor", sum := "644f3fe3e7c77a663bb4fb77ac7760d75e5df89c751af9f7507d58f4bcd94a85", func := "pipeline/pipelinelaw41.SecretValid", spec := "secretValid", inPlace := ["internal/bytealg.IndexByteString", "internal/bytealg.IndexString", "slices.overlaps[pipeline/api.Secret]"], unfollowed := true, recurses := true, named := ["unicode/utf8.first", "unicode/utf8.acceptRanges", "internal/bytealg.MaxLen"], apart := false, laid := [("unicode/utf8.acceptRanges", laid_unicode_utf8_acceptRanges), ("unicode/utf8.first", laid_unicode_utf8_first)] }
def SecretValidSaid : Prop := secretValidRow.holds Tryd.pinned (OpenSpec.ofChange secretValidSpec)

/-- ITS FALSE NEIGHBOUR: 'it returns false'. Refute it at one input. -/
def secretValidWrong : ChangeSpec := { name := "secretValid", fn := fun _ => fun
  | [d1, d2] => { results := [.lit (.bool false)], args := [d1, d2] }
  | _ => none }
def SecretValidWrongFalsely : Prop := secretValidRow.holds Tryd.pinned (OpenSpec.ofChange secretValidWrong)

/-- 'pipelinelaw41.SecretPuts': WHATEVER THE INPUT: true; the input reads as it did. -/
def secretPutsSpec : ChangeSpec := { name := "secretPuts", fn := fun _ => fun
  | [d1, d2] => { results := [.lit (.bool true)], args := [d1, d2] }
  | _ => none }
def secretPutsRow : OpenClaim := { program := "ytgloblokkejgmaadoor", sum := "644f3fe3e7c77a663bb4fb77ac7760d75e5df89c751af9f7507d58f4bcd94a85", func := "pipeline/pipelinelaw41.SecretPuts", spec := "secretPuts", inPlace := ["internal/bytealg.IndexByteString", "internal/bytealg.IndexString", "slices.overlaps[pipeline/api.Secret]"], unfollowed := true, recurses := true, named := ["unicode/utf8.first", "unicode/utf8.acceptRanges", "internal/bytealg.MaxLen"], apart := false, laid := [("unicode/utf8.acceptRanges", laid_unicode_utf8_acceptRanges), ("unicode/utf8.first", laid_unicode_utf8_first)] }
def SecretPutsSaid : Prop := secretPutsRow.holds Tryd.pinned (OpenSpec.ofChange secretPutsSpec)

/-- ITS FALSE NEIGHBOUR: 'it returns false'. Refute it at one input. -/
def secretPutsWrong : ChangeSpec := { name := "secretPuts", fn := fun _ => fun
  | [d1, d2] => { results := [.lit (.bool false)], args := [d1, d2] }
  | _ => none }
def SecretPutsWrongFalsely : Prop := secretPutsRow.holds Tryd.pinned (OpenSpec.ofChange secretPutsWrong)

/-- 'pipelinelaw41.SecretOrder': WHATEVER THE INPUT: true; the input reads as it did. -/
def secretOrderSpec : ChangeSpec := { name := "secretOrder", fn := fun _ => fun
  | [d1, d2, d3] => { results := [.lit (.bool true)], args := [d1, d2, d3] }
  | _ => none }
def secretOrderRow : OpenClaim := { program := "ytgloblokkejgmaadoor", sum := "644f3fe3e7c77a663bb4fb77ac7760d75e5df89c751af9f7507d58f4bcd94a85", func := "pipeline/pipelinelaw41.SecretOrder", spec := "secretOrder", inPlace := ["internal/bytealg.IndexByteString", "internal/bytealg.IndexString", "slices.overlaps[pipeline/api.Secret]"], unfollowed := true, recurses := true, named := ["unicode/utf8.first", "unicode/utf8.acceptRanges", "internal/bytealg.MaxLen"], apart := false, laid := [("unicode/utf8.acceptRanges", laid_unicode_utf8_acceptRanges), ("unicode/utf8.first", laid_unicode_utf8_first)] }
def SecretOrderSaid : Prop := secretOrderRow.holds Tryd.pinned (OpenSpec.ofChange secretOrderSpec)

/-- ITS FALSE NEIGHBOUR: 'it returns false'. Refute it at one input. -/
def secretOrderWrong : ChangeSpec := { name := "secretOrder", fn := fun _ => fun
  | [d1, d2, d3] => { results := [.lit (.bool false)], args := [d1, d2, d3] }
  | _ => none }
def SecretOrderWrongFalsely : Prop := secretOrderRow.holds Tryd.pinned (OpenSpec.ofChange secretOrderWrong)

/-- 'pipelinelaw41.SecretMay': WHATEVER THE INPUT: true; the input reads as it did. -/
def secretMaySpec : ChangeSpec := { name := "secretMay", fn := fun _ => fun
  | [d1, d2] => { results := [.lit (.bool true)], args := [d1, d2] }
  | _ => none }
def secretMayRow : OpenClaim := { program := "ytgloblokkejgmaadoor", sum := "644f3fe3e7c77a663bb4fb77ac7760d75e5df89c751af9f7507d58f4bcd94a85", func := "pipeline/pipelinelaw41.SecretMay", spec := "secretMay", inPlace := ["internal/bytealg.IndexByteString", "internal/bytealg.IndexString", "slices.overlaps[pipeline/api.Secret]"], unfollowed := true, recurses := true, named := ["unicode/utf8.first", "unicode/utf8.acceptRanges", "internal/bytealg.MaxLen"], loops := true, apart := false, laid := [("unicode/utf8.acceptRanges", laid_unicode_utf8_acceptRanges), ("unicode/utf8.first", laid_unicode_utf8_first)] }
def SecretMaySaid : Prop := secretMayRow.holds Tryd.pinned (OpenSpec.ofChange secretMaySpec)

/-- ITS FALSE NEIGHBOUR: 'it returns false'. Refute it at one input. -/
def secretMayWrong : ChangeSpec := { name := "secretMay", fn := fun _ => fun
  | [d1, d2] => { results := [.lit (.bool false)], args := [d1, d2] }
  | _ => none }
def SecretMayWrongFalsely : Prop := secretMayRow.holds Tryd.pinned (OpenSpec.ofChange secretMayWrong)

/-- 'pipelinelaw41.SecretVisible': WHATEVER THE INPUT: true; the input reads as it did. -/
def secretVisibleSpec : ChangeSpec := { name := "secretVisible", fn := fun _ => fun
  | [d1, d2] => { results := [.lit (.bool true)], args := [d1, d2] }
  | _ => none }
def secretVisibleRow : OpenClaim := { program := "ytgloblokkejgmaadoor", sum := "644f3fe3e7c77a663bb4fb77ac7760d75e5df89c751af9f7507d58f4bcd94a85", func := "pipeline/pipelinelaw41.SecretVisible", spec := "secretVisible", inPlace := ["internal/bytealg.IndexByteString", "internal/bytealg.IndexString", "slices.overlaps[pipeline/api.Secret]"], unfollowed := true, recurses := true, named := ["unicode/utf8.first", "unicode/utf8.acceptRanges", "internal/bytealg.MaxLen"], loops := true, apart := false, laid := [("unicode/utf8.acceptRanges", laid_unicode_utf8_acceptRanges), ("unicode/utf8.first", laid_unicode_utf8_first)] }
def SecretVisibleSaid : Prop := secretVisibleRow.holds Tryd.pinned (OpenSpec.ofChange secretVisibleSpec)

/-- ITS FALSE NEIGHBOUR: 'it returns false'. Refute it at one input. -/
def secretVisibleWrong : ChangeSpec := { name := "secretVisible", fn := fun _ => fun
  | [d1, d2] => { results := [.lit (.bool false)], args := [d1, d2] }
  | _ => none }
def SecretVisibleWrongFalsely : Prop := secretVisibleRow.holds Tryd.pinned (OpenSpec.ofChange secretVisibleWrong)

/-- 'pipelinelaw41.SecretLevels': WHATEVER THE INPUT: true; the input reads as it did. -/
def secretLevelsSpec : ChangeSpec := { name := "secretLevels", fn := fun _ => fun
  | [d1, d2] => { results := [.lit (.bool true)], args := [d1, d2] }
  | _ => none }
def secretLevelsRow : OpenClaim := { program := "ytgloblokkejgmaadoor", sum := "644f3fe3e7c77a663bb4fb77ac7760d75e5df89c751af9f7507d58f4bcd94a85", func := "pipeline/pipelinelaw41.SecretLevels", spec := "secretLevels", inPlace := ["internal/bytealg.IndexByteString", "internal/bytealg.IndexString", "slices.overlaps[pipeline/api.Secret]"], unfollowed := true, recurses := true, named := ["unicode/utf8.first", "unicode/utf8.acceptRanges", "internal/bytealg.MaxLen"], loops := true, apart := false, laid := [("unicode/utf8.acceptRanges", laid_unicode_utf8_acceptRanges), ("unicode/utf8.first", laid_unicode_utf8_first)] }
def SecretLevelsSaid : Prop := secretLevelsRow.holds Tryd.pinned (OpenSpec.ofChange secretLevelsSpec)

/-- ITS FALSE NEIGHBOUR: 'it returns false'. Refute it at one input. -/
def secretLevelsWrong : ChangeSpec := { name := "secretLevels", fn := fun _ => fun
  | [d1, d2] => { results := [.lit (.bool false)], args := [d1, d2] }
  | _ => none }
def SecretLevelsWrongFalsely : Prop := secretLevelsRow.holds Tryd.pinned (OpenSpec.ofChange secretLevelsWrong)

/- THE SECOND FORM. 'bulk': how many values and letters a reading holds, each counted each time it is reached (what is shared counts as often as it is met; a slice's spare places count too). A statement '..UptoSaid' is the law's where the arguments, and the package variables that the reading takes, are together of bulk at most 1048576: NARROWER than '..Said'. Prove '..Said' where nothing that the law and all that it calls make is longer than what came in: it says more and counts as full. Else prove '..UptoSaid'. A law counts once. -/
mutual
def uptoBulk {H : Type} : DataW H → Nat
  | .lit (.string bytes) => bytes.length + 1
  | .lit _ => 1
  | .nil => 1
  | .ptr d => uptoBulk d + 1
  | .slice elems spare => uptoBulkAll elems + uptoBulkAll spare + 1
  | .agg parts => uptoBulkAll parts + 1
  | .iface _ d => uptoBulk d + 1
  | .map entries => uptoBulkEntries entries + 1
  | .held _ => 1
def uptoBulkAll {H : Type} : List (DataW H) → Nat
  | [] => 0
  | d :: r => uptoBulk d + uptoBulkAll r
def uptoBulkEntries {H : Type} : List (Lit × DataW H) → Nat
  | [] => 0
  | x :: r => uptoBulkEntry x + uptoBulkEntries r
def uptoBulkEntry {H : Type} : Lit × DataW H → Nat
  | (.string bytes, d) => bytes.length + uptoBulk d + 1
  | (_, d) => uptoBulk d + 1
 end
def uptoSmall : (H : Type) → List (DataW H) → Bool := fun _ ds => decide (uptoBulkAll ds ≤ 1048576)
def OpenSpec.upto (s : _root_.Go.ChangeSpec) : _root_.Go.OpenSpec := { _root_.Go.OpenSpec.ofChange s with cond := some uptoSmall }

/-- 'pipelinelaw41.SecretValid', WHERE WHAT IT READS IS OF BULK AT MOST 1048576: true; the input reads as it did. -/
def secretValidUptoRow : OpenClaim := { program := "ytgloblokkejgmaadoor", sum := "644f3fe3e7c77a663bb4fb77ac7760d75e5df89c751af9f7507d58f4bcd94a85", func := "pipeline/pipelinelaw41.SecretValid", spec := "secretValid", inPlace := ["internal/bytealg.IndexByteString", "internal/bytealg.IndexString", "slices.overlaps[pipeline/api.Secret]"], unfollowed := true, recurses := true, named := ["unicode/utf8.first", "unicode/utf8.acceptRanges", "internal/bytealg.MaxLen"], apart := false, laid := [("unicode/utf8.acceptRanges", laid_unicode_utf8_acceptRanges), ("unicode/utf8.first", laid_unicode_utf8_first)], narrowed := true }
def SecretValidUptoSaid : Prop := secretValidUptoRow.holds Tryd.pinned (OpenSpec.upto secretValidSpec)

/-- 'pipelinelaw41.SecretPuts', WHERE WHAT IT READS IS OF BULK AT MOST 1048576: true; the input reads as it did. -/
def secretPutsUptoRow : OpenClaim := { program := "ytgloblokkejgmaadoor", sum := "644f3fe3e7c77a663bb4fb77ac7760d75e5df89c751af9f7507d58f4bcd94a85", func := "pipeline/pipelinelaw41.SecretPuts", spec := "secretPuts", inPlace := ["internal/bytealg.IndexByteString", "internal/bytealg.IndexString", "slices.overlaps[pipeline/api.Secret]"], unfollowed := true, recurses := true, named := ["unicode/utf8.first", "unicode/utf8.acceptRanges", "internal/bytealg.MaxLen"], apart := false, laid := [("unicode/utf8.acceptRanges", laid_unicode_utf8_acceptRanges), ("unicode/utf8.first", laid_unicode_utf8_first)], narrowed := true }
def SecretPutsUptoSaid : Prop := secretPutsUptoRow.holds Tryd.pinned (OpenSpec.upto secretPutsSpec)

/-- 'pipelinelaw41.SecretOrder', WHERE WHAT IT READS IS OF BULK AT MOST 1048576: true; the input reads as it did. -/
def secretOrderUptoRow : OpenClaim := { program := "ytgloblokkejgmaadoor", sum := "644f3fe3e7c77a663bb4fb77ac7760d75e5df89c751af9f7507d58f4bcd94a85", func := "pipeline/pipelinelaw41.SecretOrder", spec := "secretOrder", inPlace := ["internal/bytealg.IndexByteString", "internal/bytealg.IndexString", "slices.overlaps[pipeline/api.Secret]"], unfollowed := true, recurses := true, named := ["unicode/utf8.first", "unicode/utf8.acceptRanges", "internal/bytealg.MaxLen"], apart := false, laid := [("unicode/utf8.acceptRanges", laid_unicode_utf8_acceptRanges), ("unicode/utf8.first", laid_unicode_utf8_first)], narrowed := true }
def SecretOrderUptoSaid : Prop := secretOrderUptoRow.holds Tryd.pinned (OpenSpec.upto secretOrderSpec)

/-- 'pipelinelaw41.SecretMay', WHERE WHAT IT READS IS OF BULK AT MOST 1048576: true; the input reads as it did. -/
def secretMayUptoRow : OpenClaim := { program := "ytgloblokkejgmaadoor", sum := "644f3fe3e7c77a663bb4fb77ac7760d75e5df89c751af9f7507d58f4bcd94a85", func := "pipeline/pipelinelaw41.SecretMay", spec := "secretMay", inPlace := ["internal/bytealg.IndexByteString", "internal/bytealg.IndexString", "slices.overlaps[pipeline/api.Secret]"], unfollowed := true, recurses := true, named := ["unicode/utf8.first", "unicode/utf8.acceptRanges", "internal/bytealg.MaxLen"], loops := true, apart := false, laid := [("unicode/utf8.acceptRanges", laid_unicode_utf8_acceptRanges), ("unicode/utf8.first", laid_unicode_utf8_first)], narrowed := true }
def SecretMayUptoSaid : Prop := secretMayUptoRow.holds Tryd.pinned (OpenSpec.upto secretMaySpec)

/-- 'pipelinelaw41.SecretVisible', WHERE WHAT IT READS IS OF BULK AT MOST 1048576: true; the input reads as it did. -/
def secretVisibleUptoRow : OpenClaim := { program := "ytgloblokkejgmaadoor", sum := "644f3fe3e7c77a663bb4fb77ac7760d75e5df89c751af9f7507d58f4bcd94a85", func := "pipeline/pipelinelaw41.SecretVisible", spec := "secretVisible", inPlace := ["internal/bytealg.IndexByteString", "internal/bytealg.IndexString", "slices.overlaps[pipeline/api.Secret]"], unfollowed := true, recurses := true, named := ["unicode/utf8.first", "unicode/utf8.acceptRanges", "internal/bytealg.MaxLen"], loops := true, apart := false, laid := [("unicode/utf8.acceptRanges", laid_unicode_utf8_acceptRanges), ("unicode/utf8.first", laid_unicode_utf8_first)], narrowed := true }
def SecretVisibleUptoSaid : Prop := secretVisibleUptoRow.holds Tryd.pinned (OpenSpec.upto secretVisibleSpec)

/-- 'pipelinelaw41.SecretLevels', WHERE WHAT IT READS IS OF BULK AT MOST 1048576: true; the input reads as it did. -/
def secretLevelsUptoRow : OpenClaim := { program := "ytgloblokkejgmaadoor", sum := "644f3fe3e7c77a663bb4fb77ac7760d75e5df89c751af9f7507d58f4bcd94a85", func := "pipeline/pipelinelaw41.SecretLevels", spec := "secretLevels", inPlace := ["internal/bytealg.IndexByteString", "internal/bytealg.IndexString", "slices.overlaps[pipeline/api.Secret]"], unfollowed := true, recurses := true, named := ["unicode/utf8.first", "unicode/utf8.acceptRanges", "internal/bytealg.MaxLen"], loops := true, apart := false, laid := [("unicode/utf8.acceptRanges", laid_unicode_utf8_acceptRanges), ("unicode/utf8.first", laid_unicode_utf8_first)], narrowed := true }
def SecretLevelsUptoSaid : Prop := secretLevelsUptoRow.holds Tryd.pinned (OpenSpec.upto secretLevelsSpec)

end Rows
end Go.Proofs.YtgloblokkejgmaaDoor
