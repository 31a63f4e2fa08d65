/-
  NARROWER THAN 'FOR EVERY INPUT', by the rows' own cells (each row's printed sentence says how): TrustLevels: laid · TrustReads: laid · TrustRuns: laid · TrustForks: laid · TrustFlows: laid.
  DERIVED. THE GIVEN ROWS OF THIS SEAT. 5 by the template 'for every input the law returns true; each argument reads behind the call as it read before'; 0 by the template 'total and deterministic' (their statements: YtlpeblgcniggmaaDoorTotals.lean).
  GIVEN WITH THE SEED: the statements are not yours to turn. If you find one false, say at which input.
  Laid BY PROGRAM, IN A SANDBOX (cutbox-rows.mjs): the forced cells as the released guide's own fill.sh prints them over the translation 36e8198a22094b63… (all of the seat's roots in one cut). By AI agents, Wed Nov 11 2026. No macro, syntax, notation, axiom, sorry.
-/
import Derived.Test.YtlpeblgcniggmaaDoorChecked
import GoSem.PinnedTables
import GoSem.Claim
import GoSem.ClaimJoined
import GoSem.ClaimMapViews
import Derived.JoinedTies
import Derived.KernelRfl
namespace Go.Proofs.YtlpeblgcniggmaaDoor
/- THE CELL 'sum', in the pinned program and in every row, IS THE sha256 OF THE DUMP (.gsa) THAT YtlpeblgcniggmaaDoorProg.lean LOADS. Nothing in Lean hashes anything: it is a label: what it is worth is what the hold of that sum in a sandbox is worth. -/
noncomputable def Tryd.pinned : Pinned := { name := "ytlpeblgcniggmaadoor", sum := "36e8198a22094b63cc6aa49e8b470f1e4ff78897d8bba11b326062a745452765", checked := Tryd.checked }
namespace Rows
def none {H : Type} : Left H := { results := [], args := [] }

/- WHAT THE LISTED PACKAGE-LEVEL VARIABLES READ AS WHEN THE CALL BEGINS. Each datum BY PROGRAM (the guide's laid-datum.mjs) off the statement by which the dump's own 'gosem.cut.vars' lays the variable. In a bare row this is a premise. The card (YtlpeblgcniggmaaDoorCards.lean) ties it to the program's text. -/
def laid_unicode_utf8_acceptRanges {H : Type} : DataW H := .agg [.agg [.lit (.int .u8 128), .lit (.int .u8 191)], .agg [.lit (.int .u8 160), .lit (.int .u8 191)], .agg [.lit (.int .u8 128), .lit (.int .u8 159)], .agg [.lit (.int .u8 144), .lit (.int .u8 191)], .agg [.lit (.int .u8 128), .lit (.int .u8 143)], .agg [.lit (.int .u8 0), .lit (.int .u8 0)], .agg [.lit (.int .u8 0), .lit (.int .u8 0)], .agg [.lit (.int .u8 0), .lit (.int .u8 0)], .agg [.lit (.int .u8 0), .lit (.int .u8 0)], .agg [.lit (.int .u8 0), .lit (.int .u8 0)], .agg [.lit (.int .u8 0), .lit (.int .u8 0)], .agg [.lit (.int .u8 0), .lit (.int .u8 0)], .agg [.lit (.int .u8 0), .lit (.int .u8 0)], .agg [.lit (.int .u8 0), .lit (.int .u8 0)], .agg [.lit (.int .u8 0), .lit (.int .u8 0)], .agg [.lit (.int .u8 0), .lit (.int .u8 0)]]
/-- One of Go's own tables, pinned by name: the form's constant. -/
def laid_unicode_utf8_first : DataW Unit := Go.Pinned.utf8First

/-- 'pipelinelaw31.TrustLevels': WHATEVER THE INPUT: true; the input reads as it did. -/
def trustLevelsSpec : ChangeSpec := { name := "trustLevels", fn := fun _ => fun
  | [d1, d2] => { results := [.lit (.bool true)], args := [d1, d2] }
  | _ => none }
def trustLevelsRow : OpenClaim := { program := "ytlpeblgcniggmaadoor", sum := "36e8198a22094b63cc6aa49e8b470f1e4ff78897d8bba11b326062a745452765", func := "pipeline/pipelinelaw31.TrustLevels", spec := "trustLevels", inPlace := ["internal/bytealg.CountString", "internal/bytealg.IndexByteString", "internal/bytealg.IndexString"], unfollowed := true, recurses := true, named := ["unicode/utf8.first", "unicode/utf8.acceptRanges", "internal/bytealg.MaxLen"], apart := false, laid := [("unicode/utf8.acceptRanges", laid_unicode_utf8_acceptRanges), ("unicode/utf8.first", laid_unicode_utf8_first)] }
def TrustLevelsSaid : Prop := trustLevelsRow.holds Tryd.pinned (OpenSpec.ofChange trustLevelsSpec)

/-- ITS FALSE NEIGHBOUR: 'it returns false'. Refute it at one input. -/
def trustLevelsWrong : ChangeSpec := { name := "trustLevels", fn := fun _ => fun
  | [d1, d2] => { results := [.lit (.bool false)], args := [d1, d2] }
  | _ => none }
def TrustLevelsWrongFalsely : Prop := trustLevelsRow.holds Tryd.pinned (OpenSpec.ofChange trustLevelsWrong)

/-- 'pipelinelaw31.TrustReads': WHATEVER THE INPUT: true; the input reads as it did. -/
def trustReadsSpec : ChangeSpec := { name := "trustReads", fn := fun _ => fun
  | [d1, d2, d3] => { results := [.lit (.bool true)], args := [d1, d2, d3] }
  | _ => none }
def trustReadsRow : OpenClaim := { program := "ytlpeblgcniggmaadoor", sum := "36e8198a22094b63cc6aa49e8b470f1e4ff78897d8bba11b326062a745452765", func := "pipeline/pipelinelaw31.TrustReads", spec := "trustReads", inPlace := ["internal/bytealg.CountString", "internal/bytealg.IndexByteString", "internal/bytealg.IndexString"], unfollowed := true, recurses := true, named := ["unicode/utf8.first", "unicode/utf8.acceptRanges", "internal/bytealg.MaxLen"], apart := false, laid := [("unicode/utf8.acceptRanges", laid_unicode_utf8_acceptRanges), ("unicode/utf8.first", laid_unicode_utf8_first)] }
def TrustReadsSaid : Prop := trustReadsRow.holds Tryd.pinned (OpenSpec.ofChange trustReadsSpec)

/-- ITS FALSE NEIGHBOUR: 'it returns false'. Refute it at one input. -/
def trustReadsWrong : ChangeSpec := { name := "trustReads", fn := fun _ => fun
  | [d1, d2, d3] => { results := [.lit (.bool false)], args := [d1, d2, d3] }
  | _ => none }
def TrustReadsWrongFalsely : Prop := trustReadsRow.holds Tryd.pinned (OpenSpec.ofChange trustReadsWrong)

/-- 'pipelinelaw31.TrustRuns': WHATEVER THE INPUT: true; the input reads as it did. -/
def trustRunsSpec : ChangeSpec := { name := "trustRuns", fn := fun _ => fun
  | [d1, d2] => { results := [.lit (.bool true)], args := [d1, d2] }
  | _ => none }
def trustRunsRow : OpenClaim := { program := "ytlpeblgcniggmaadoor", sum := "36e8198a22094b63cc6aa49e8b470f1e4ff78897d8bba11b326062a745452765", func := "pipeline/pipelinelaw31.TrustRuns", spec := "trustRuns", inPlace := ["internal/bytealg.CountString", "internal/bytealg.IndexByteString", "internal/bytealg.IndexString"], unfollowed := true, recurses := true, named := ["unicode/utf8.first", "unicode/utf8.acceptRanges", "internal/bytealg.MaxLen"], apart := false, laid := [("unicode/utf8.acceptRanges", laid_unicode_utf8_acceptRanges), ("unicode/utf8.first", laid_unicode_utf8_first)] }
def TrustRunsSaid : Prop := trustRunsRow.holds Tryd.pinned (OpenSpec.ofChange trustRunsSpec)

/-- ITS FALSE NEIGHBOUR: 'it returns false'. Refute it at one input. -/
def trustRunsWrong : ChangeSpec := { name := "trustRuns", fn := fun _ => fun
  | [d1, d2] => { results := [.lit (.bool false)], args := [d1, d2] }
  | _ => none }
def TrustRunsWrongFalsely : Prop := trustRunsRow.holds Tryd.pinned (OpenSpec.ofChange trustRunsWrong)

/-- 'pipelinelaw31.TrustForks': WHATEVER THE INPUT: true; the input reads as it did. -/
def trustForksSpec : ChangeSpec := { name := "trustForks", fn := fun _ => fun
  | [d1, d2, d3] => { results := [.lit (.bool true)], args := [d1, d2, d3] }
  | _ => none }
def trustForksRow : OpenClaim := { program := "ytlpeblgcniggmaadoor", sum := "36e8198a22094b63cc6aa49e8b470f1e4ff78897d8bba11b326062a745452765", func := "pipeline/pipelinelaw31.TrustForks", spec := "trustForks", inPlace := ["internal/bytealg.CountString", "internal/bytealg.IndexByteString", "internal/bytealg.IndexString"], unfollowed := true, recurses := true, named := ["unicode/utf8.first", "unicode/utf8.acceptRanges", "internal/bytealg.MaxLen"], apart := false, laid := [("unicode/utf8.acceptRanges", laid_unicode_utf8_acceptRanges), ("unicode/utf8.first", laid_unicode_utf8_first)] }
def TrustForksSaid : Prop := trustForksRow.holds Tryd.pinned (OpenSpec.ofChange trustForksSpec)

/-- ITS FALSE NEIGHBOUR: 'it returns false'. Refute it at one input. -/
def trustForksWrong : ChangeSpec := { name := "trustForks", fn := fun _ => fun
  | [d1, d2, d3] => { results := [.lit (.bool false)], args := [d1, d2, d3] }
  | _ => none }
def TrustForksWrongFalsely : Prop := trustForksRow.holds Tryd.pinned (OpenSpec.ofChange trustForksWrong)

/-- 'pipelinelaw31.TrustFlows': WHATEVER THE INPUT: true; the input reads as it did. -/
def trustFlowsSpec : ChangeSpec := { name := "trustFlows", fn := fun _ => fun
  | [d1, d2] => { results := [.lit (.bool true)], args := [d1, d2] }
  | _ => none }
def trustFlowsRow : OpenClaim := { program := "ytlpeblgcniggmaadoor", sum := "36e8198a22094b63cc6aa49e8b470f1e4ff78897d8bba11b326062a745452765", func := "pipeline/pipelinelaw31.TrustFlows", spec := "trustFlows", inPlace := ["internal/bytealg.CountString", "internal/bytealg.IndexByteString", "internal/bytealg.IndexString"], unfollowed := true, recurses := true, named := ["unicode/utf8.first", "unicode/utf8.acceptRanges", "internal/bytealg.MaxLen"], apart := false, laid := [("unicode/utf8.acceptRanges", laid_unicode_utf8_acceptRanges), ("unicode/utf8.first", laid_unicode_utf8_first)] }
def TrustFlowsSaid : Prop := trustFlowsRow.holds Tryd.pinned (OpenSpec.ofChange trustFlowsSpec)

/-- ITS FALSE NEIGHBOUR: 'it returns false'. Refute it at one input. -/
def trustFlowsWrong : ChangeSpec := { name := "trustFlows", fn := fun _ => fun
  | [d1, d2] => { results := [.lit (.bool false)], args := [d1, d2] }
  | _ => none }
def TrustFlowsWrongFalsely : Prop := trustFlowsRow.holds Tryd.pinned (OpenSpec.ofChange trustFlowsWrong)

/- THE SECOND FORM. 'bulk': how many values and letters a reading holds, each counted each time it is reached (what is shared counts as often as it is met; a slice's spare places count too). A statement '..UptoSaid' is the law's where the arguments, and the package variables that the reading takes, are together of bulk at most 1048576: NARROWER than '..Said'. Prove '..Said' where nothing that the law and all that it calls make is longer than what came in: it says more and counts as full. Else prove '..UptoSaid'. A law counts once. -/
mutual
def uptoBulk {H : Type} : DataW H → Nat
  | .lit (.string bytes) => bytes.length + 1
  | .lit _ => 1
  | .nil => 1
  | .ptr d => uptoBulk d + 1
  | .slice elems spare => uptoBulkAll elems + uptoBulkAll spare + 1
  | .agg parts => uptoBulkAll parts + 1
  | .iface _ d => uptoBulk d + 1
  | .map entries => uptoBulkEntries entries + 1
  | .held _ => 1
def uptoBulkAll {H : Type} : List (DataW H) → Nat
  | [] => 0
  | d :: r => uptoBulk d + uptoBulkAll r
def uptoBulkEntries {H : Type} : List (Lit × DataW H) → Nat
  | [] => 0
  | x :: r => uptoBulkEntry x + uptoBulkEntries r
def uptoBulkEntry {H : Type} : Lit × DataW H → Nat
  | (.string bytes, d) => bytes.length + uptoBulk d + 1
  | (_, d) => uptoBulk d + 1
 end
def uptoSmall : (H : Type) → List (DataW H) → Bool := fun _ ds => decide (uptoBulkAll ds ≤ 1048576)
def OpenSpec.upto (s : _root_.Go.ChangeSpec) : _root_.Go.OpenSpec := { _root_.Go.OpenSpec.ofChange s with cond := some uptoSmall }

/-- 'pipelinelaw31.TrustLevels', WHERE WHAT IT READS IS OF BULK AT MOST 1048576: true; the input reads as it did. -/
def trustLevelsUptoRow : OpenClaim := { program := "ytlpeblgcniggmaadoor", sum := "36e8198a22094b63cc6aa49e8b470f1e4ff78897d8bba11b326062a745452765", func := "pipeline/pipelinelaw31.TrustLevels", spec := "trustLevels", inPlace := ["internal/bytealg.CountString", "internal/bytealg.IndexByteString", "internal/bytealg.IndexString"], unfollowed := true, recurses := true, named := ["unicode/utf8.first", "unicode/utf8.acceptRanges", "internal/bytealg.MaxLen"], apart := false, laid := [("unicode/utf8.acceptRanges", laid_unicode_utf8_acceptRanges), ("unicode/utf8.first", laid_unicode_utf8_first)], narrowed := true }
def TrustLevelsUptoSaid : Prop := trustLevelsUptoRow.holds Tryd.pinned (OpenSpec.upto trustLevelsSpec)

/-- 'pipelinelaw31.TrustReads', WHERE WHAT IT READS IS OF BULK AT MOST 1048576: true; the input reads as it did. -/
def trustReadsUptoRow : OpenClaim := { program := "ytlpeblgcniggmaadoor", sum := "36e8198a22094b63cc6aa49e8b470f1e4ff78897d8bba11b326062a745452765", func := "pipeline/pipelinelaw31.TrustReads", spec := "trustReads", inPlace := ["internal/bytealg.CountString", "internal/bytealg.IndexByteString", "internal/bytealg.IndexString"], unfollowed := true, recurses := true, named := ["unicode/utf8.first", "unicode/utf8.acceptRanges", "internal/bytealg.MaxLen"], apart := false, laid := [("unicode/utf8.acceptRanges", laid_unicode_utf8_acceptRanges), ("unicode/utf8.first", laid_unicode_utf8_first)], narrowed := true }
def TrustReadsUptoSaid : Prop := trustReadsUptoRow.holds Tryd.pinned (OpenSpec.upto trustReadsSpec)

/-- 'pipelinelaw31.TrustRuns', WHERE WHAT IT READS IS OF BULK AT MOST 1048576: true; the input reads as it did. -/
def trustRunsUptoRow : OpenClaim := { program := "ytlpeblgcniggmaadoor", sum := "36e8198a22094b63cc6aa49e8b470f1e4ff78897d8bba11b326062a745452765", func := "pipeline/pipelinelaw31.TrustRuns", spec := "trustRuns", inPlace := ["internal/bytealg.CountString", "internal/bytealg.IndexByteString", "internal/bytealg.IndexString"], unfollowed := true, recurses := true, named := ["unicode/utf8.first", "unicode/utf8.acceptRanges", "internal/bytealg.MaxLen"], apart := false, laid := [("unicode/utf8.acceptRanges", laid_unicode_utf8_acceptRanges), ("unicode/utf8.first", laid_unicode_utf8_first)], narrowed := true }
def TrustRunsUptoSaid : Prop := trustRunsUptoRow.holds Tryd.pinned (OpenSpec.upto trustRunsSpec)

/-- 'pipelinelaw31.TrustForks', WHERE WHAT IT READS IS OF BULK AT MOST 1048576: true; the input reads as it did. -/
def trustForksUptoRow : OpenClaim := { program := "ytlpeblgcniggmaadoor", sum := "36e8198a22094b63cc6aa49e8b470f1e4ff78897d8bba11b326062a745452765", func := "pipeline/pipelinelaw31.TrustForks", spec := "trustForks", inPlace := ["internal/bytealg.CountString", "internal/bytealg.IndexByteString", "internal/bytealg.IndexString"], unfollowed := true, recurses := true, named := ["unicode/utf8.first", "unicode/utf8.acceptRanges", "internal/bytealg.MaxLen"], apart := false, laid := [("unicode/utf8.acceptRanges", laid_unicode_utf8_acceptRanges), ("unicode/utf8.first", laid_unicode_utf8_first)], narrowed := true }
def TrustForksUptoSaid : Prop := trustForksUptoRow.holds Tryd.pinned (OpenSpec.upto trustForksSpec)

/-- 'pipelinelaw31.TrustFlows', WHERE WHAT IT READS IS OF BULK AT MOST 1048576: true; the input reads as it did. -/
def trustFlowsUptoRow : OpenClaim := { program := "ytlpeblgcniggmaadoor", sum := "36e8198a22094b63cc6aa49e8b470f1e4ff78897d8bba11b326062a745452765", func := "pipeline/pipelinelaw31.TrustFlows", spec := "trustFlows", inPlace := ["internal/bytealg.CountString", "internal/bytealg.IndexByteString", "internal/bytealg.IndexString"], unfollowed := true, recurses := true, named := ["unicode/utf8.first", "unicode/utf8.acceptRanges", "internal/bytealg.MaxLen"], apart := false, laid := [("unicode/utf8.acceptRanges", laid_unicode_utf8_acceptRanges), ("unicode/utf8.first", laid_unicode_utf8_first)], narrowed := true }
def TrustFlowsUptoSaid : Prop := trustFlowsUptoRow.holds Tryd.pinned (OpenSpec.upto trustFlowsSpec)

end Rows
end Go.Proofs.YtlpeblgcniggmaaDoor
