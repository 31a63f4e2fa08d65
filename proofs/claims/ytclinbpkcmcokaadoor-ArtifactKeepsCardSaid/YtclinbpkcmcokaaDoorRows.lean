/-
  NARROWER THAN 'FOR EVERY INPUT', by the rows' own cells (each row's printed sentence says how): ArtifactPuts: laid · ArtifactFull: laid · ArtifactKeeps: laid · ArtifactGets: laid.
  DERIVED. THE GIVEN ROWS OF THIS SEAT. 4 by the template 'for every input the law returns true; each argument reads behind the call as it read before'; 0 by the template 'total and deterministic' (their statements: YtclinbpkcmcokaaDoorTotals.lean).
  GIVEN WITH THE SEED: the statements are not yours to turn. If you find one false, say at which input.
  Laid BY PROGRAM, IN A SANDBOX (cutbox-rows.mjs): the forced cells as the released guide's own fill.sh prints them over the translation dade2823054437ee… (all of the seat's roots in one cut). By AI agents, Wed Nov 11 2026. No macro, syntax, notation, axiom, sorry.
-/
import Derived.Test.YtclinbpkcmcokaaDoorChecked
import GoSem.PinnedTables
import GoSem.Claim
import GoSem.ClaimJoined
import GoSem.ClaimMapViews
import Derived.JoinedTies
import Derived.KernelRfl
namespace Go.Proofs.YtclinbpkcmcokaaDoor
/- THE CELL 'sum', in the pinned program and in every row, IS THE sha256 OF THE DUMP (.gsa) THAT YtclinbpkcmcokaaDoorProg.lean LOADS. Nothing in Lean hashes anything: it is a label: what it is worth is what the hold of that sum in a sandbox is worth. -/
noncomputable def Tryd.pinned : Pinned := { name := "ytclinbpkcmcokaadoor", sum := "dade2823054437ee86cbc4e49fd56ebb4cd451658f52efb0634f9f9e9dfec6f5", checked := Tryd.checked }
namespace Rows
def none {H : Type} : Left H := { results := [], args := [] }

/- WHAT THE LISTED PACKAGE-LEVEL VARIABLES READ AS WHEN THE CALL BEGINS. Each datum BY PROGRAM (the guide's laid-datum.mjs) off the statement by which the dump's own 'gosem.cut.vars' lays the variable. In a bare row this is a premise. The card (YtclinbpkcmcokaaDoorCards.lean) ties it to the program's text. -/
def laid_unicode_utf8_acceptRanges {H : Type} : DataW H := .agg [.agg [.lit (.int .u8 128), .lit (.int .u8 191)], .agg [.lit (.int .u8 160), .lit (.int .u8 191)], .agg [.lit (.int .u8 128), .lit (.int .u8 159)], .agg [.lit (.int .u8 144), .lit (.int .u8 191)], .agg [.lit (.int .u8 128), .lit (.int .u8 143)], .agg [.lit (.int .u8 0), .lit (.int .u8 0)], .agg [.lit (.int .u8 0), .lit (.int .u8 0)], .agg [.lit (.int .u8 0), .lit (.int .u8 0)], .agg [.lit (.int .u8 0), .lit (.int .u8 0)], .agg [.lit (.int .u8 0), .lit (.int .u8 0)], .agg [.lit (.int .u8 0), .lit (.int .u8 0)], .agg [.lit (.int .u8 0), .lit (.int .u8 0)], .agg [.lit (.int .u8 0), .lit (.int .u8 0)], .agg [.lit (.int .u8 0), .lit (.int .u8 0)], .agg [.lit (.int .u8 0), .lit (.int .u8 0)], .agg [.lit (.int .u8 0), .lit (.int .u8 0)]]
/-- One of Go's own tables, pinned by name: the form's constant. -/
def laid_unicode_utf8_first : DataW Unit := Go.Pinned.utf8First

/-- 'pipelinelaw34.ArtifactPuts': WHATEVER THE INPUT: true; the input reads as it did. -/
def artifactPutsSpec : ChangeSpec := { name := "artifactPuts", fn := fun _ => fun
  | [d1, d2] => { results := [.lit (.bool true)], args := [d1, d2] }
  | _ => none }
def artifactPutsRow : OpenClaim := { program := "ytclinbpkcmcokaadoor", sum := "dade2823054437ee86cbc4e49fd56ebb4cd451658f52efb0634f9f9e9dfec6f5", func := "pipeline/pipelinelaw34.ArtifactPuts", spec := "artifactPuts", inPlace := ["internal/bytealg.CountString", "internal/bytealg.IndexByteString", "internal/bytealg.IndexString"], unfollowed := true, recurses := true, named := ["unicode/utf8.first", "unicode/utf8.acceptRanges", "internal/bytealg.MaxLen"], apart := false, laid := [("unicode/utf8.acceptRanges", laid_unicode_utf8_acceptRanges), ("unicode/utf8.first", laid_unicode_utf8_first)] }
def ArtifactPutsSaid : Prop := artifactPutsRow.holds Tryd.pinned (OpenSpec.ofChange artifactPutsSpec)

/-- ITS FALSE NEIGHBOUR: 'it returns false'. Refute it at one input. -/
def artifactPutsWrong : ChangeSpec := { name := "artifactPuts", fn := fun _ => fun
  | [d1, d2] => { results := [.lit (.bool false)], args := [d1, d2] }
  | _ => none }
def ArtifactPutsWrongFalsely : Prop := artifactPutsRow.holds Tryd.pinned (OpenSpec.ofChange artifactPutsWrong)

/-- 'pipelinelaw34.ArtifactFull': WHATEVER THE INPUT: true; the input reads as it did. -/
def artifactFullSpec : ChangeSpec := { name := "artifactFull", fn := fun _ => fun
  | [d] => { results := [.lit (.bool true)], args := [d] }
  | _ => none }
def artifactFullRow : OpenClaim := { program := "ytclinbpkcmcokaadoor", sum := "dade2823054437ee86cbc4e49fd56ebb4cd451658f52efb0634f9f9e9dfec6f5", func := "pipeline/pipelinelaw34.ArtifactFull", spec := "artifactFull", inPlace := ["internal/bytealg.CountString", "internal/bytealg.IndexByteString", "internal/bytealg.IndexString"], unfollowed := true, recurses := true, named := ["unicode/utf8.first", "unicode/utf8.acceptRanges", "internal/bytealg.MaxLen"], apart := false, laid := [("unicode/utf8.acceptRanges", laid_unicode_utf8_acceptRanges), ("unicode/utf8.first", laid_unicode_utf8_first)] }
def ArtifactFullSaid : Prop := artifactFullRow.holds Tryd.pinned (OpenSpec.ofChange artifactFullSpec)

/-- ITS FALSE NEIGHBOUR: 'it returns false'. Refute it at one input. -/
def artifactFullWrong : ChangeSpec := { name := "artifactFull", fn := fun _ => fun
  | [d] => { results := [.lit (.bool false)], args := [d] }
  | _ => none }
def ArtifactFullWrongFalsely : Prop := artifactFullRow.holds Tryd.pinned (OpenSpec.ofChange artifactFullWrong)

/-- 'pipelinelaw34.ArtifactKeeps': WHATEVER THE INPUT: true; the input reads as it did. -/
def artifactKeepsSpec : ChangeSpec := { name := "artifactKeeps", fn := fun _ => fun
  | [d1, d2] => { results := [.lit (.bool true)], args := [d1, d2] }
  | _ => none }
def artifactKeepsRow : OpenClaim := { program := "ytclinbpkcmcokaadoor", sum := "dade2823054437ee86cbc4e49fd56ebb4cd451658f52efb0634f9f9e9dfec6f5", func := "pipeline/pipelinelaw34.ArtifactKeeps", spec := "artifactKeeps", inPlace := ["internal/bytealg.CountString", "internal/bytealg.IndexByteString", "internal/bytealg.IndexString"], unfollowed := true, recurses := true, named := ["unicode/utf8.first", "unicode/utf8.acceptRanges", "internal/bytealg.MaxLen"], apart := false, laid := [("unicode/utf8.acceptRanges", laid_unicode_utf8_acceptRanges), ("unicode/utf8.first", laid_unicode_utf8_first)] }
def ArtifactKeepsSaid : Prop := artifactKeepsRow.holds Tryd.pinned (OpenSpec.ofChange artifactKeepsSpec)

/-- ITS FALSE NEIGHBOUR: 'it returns false'. Refute it at one input. -/
def artifactKeepsWrong : ChangeSpec := { name := "artifactKeeps", fn := fun _ => fun
  | [d1, d2] => { results := [.lit (.bool false)], args := [d1, d2] }
  | _ => none }
def ArtifactKeepsWrongFalsely : Prop := artifactKeepsRow.holds Tryd.pinned (OpenSpec.ofChange artifactKeepsWrong)

/-- 'pipelinelaw34.ArtifactGets': WHATEVER THE INPUT: true; the input reads as it did. -/
def artifactGetsSpec : ChangeSpec := { name := "artifactGets", fn := fun _ => fun
  | [d1, d2, d3] => { results := [.lit (.bool true)], args := [d1, d2, d3] }
  | _ => none }
def artifactGetsRow : OpenClaim := { program := "ytclinbpkcmcokaadoor", sum := "dade2823054437ee86cbc4e49fd56ebb4cd451658f52efb0634f9f9e9dfec6f5", func := "pipeline/pipelinelaw34.ArtifactGets", spec := "artifactGets", inPlace := ["internal/bytealg.CountString", "internal/bytealg.IndexByteString", "internal/bytealg.IndexString"], unfollowed := true, recurses := true, named := ["unicode/utf8.first", "unicode/utf8.acceptRanges", "internal/bytealg.MaxLen"], apart := false, laid := [("unicode/utf8.acceptRanges", laid_unicode_utf8_acceptRanges), ("unicode/utf8.first", laid_unicode_utf8_first)] }
def ArtifactGetsSaid : Prop := artifactGetsRow.holds Tryd.pinned (OpenSpec.ofChange artifactGetsSpec)

/-- ITS FALSE NEIGHBOUR: 'it returns false'. Refute it at one input. -/
def artifactGetsWrong : ChangeSpec := { name := "artifactGets", fn := fun _ => fun
  | [d1, d2, d3] => { results := [.lit (.bool false)], args := [d1, d2, d3] }
  | _ => none }
def ArtifactGetsWrongFalsely : Prop := artifactGetsRow.holds Tryd.pinned (OpenSpec.ofChange artifactGetsWrong)

/- THE SECOND FORM. 'bulk': how many values and letters a reading holds, each counted each time it is reached (what is shared counts as often as it is met; a slice's spare places count too). A statement '..UptoSaid' is the law's where the arguments, and the package variables that the reading takes, are together of bulk at most 1048576: NARROWER than '..Said'. Prove '..Said' where nothing that the law and all that it calls make is longer than what came in: it says more and counts as full. Else prove '..UptoSaid'. A law counts once. -/
mutual
def uptoBulk {H : Type} : DataW H → Nat
  | .lit (.string bytes) => bytes.length + 1
  | .lit _ => 1
  | .nil => 1
  | .ptr d => uptoBulk d + 1
  | .slice elems spare => uptoBulkAll elems + uptoBulkAll spare + 1
  | .agg parts => uptoBulkAll parts + 1
  | .iface _ d => uptoBulk d + 1
  | .map entries => uptoBulkEntries entries + 1
  | .held _ => 1
def uptoBulkAll {H : Type} : List (DataW H) → Nat
  | [] => 0
  | d :: r => uptoBulk d + uptoBulkAll r
def uptoBulkEntries {H : Type} : List (Lit × DataW H) → Nat
  | [] => 0
  | x :: r => uptoBulkEntry x + uptoBulkEntries r
def uptoBulkEntry {H : Type} : Lit × DataW H → Nat
  | (.string bytes, d) => bytes.length + uptoBulk d + 1
  | (_, d) => uptoBulk d + 1
 end
def uptoSmall : (H : Type) → List (DataW H) → Bool := fun _ ds => decide (uptoBulkAll ds ≤ 1048576)
def OpenSpec.upto (s : _root_.Go.ChangeSpec) : _root_.Go.OpenSpec := { _root_.Go.OpenSpec.ofChange s with cond := some uptoSmall }

/-- 'pipelinelaw34.ArtifactPuts', WHERE WHAT IT READS IS OF BULK AT MOST 1048576: true; the input reads as it did. -/
def artifactPutsUptoRow : OpenClaim := { program := "ytclinbpkcmcokaadoor", sum := "dade2823054437ee86cbc4e49fd56ebb4cd451658f52efb0634f9f9e9dfec6f5", func := "pipeline/pipelinelaw34.ArtifactPuts", spec := "artifactPuts", inPlace := ["internal/bytealg.CountString", "internal/bytealg.IndexByteString", "internal/bytealg.IndexString"], unfollowed := true, recurses := true, named := ["unicode/utf8.first", "unicode/utf8.acceptRanges", "internal/bytealg.MaxLen"], apart := false, laid := [("unicode/utf8.acceptRanges", laid_unicode_utf8_acceptRanges), ("unicode/utf8.first", laid_unicode_utf8_first)], narrowed := true }
def ArtifactPutsUptoSaid : Prop := artifactPutsUptoRow.holds Tryd.pinned (OpenSpec.upto artifactPutsSpec)

/-- 'pipelinelaw34.ArtifactFull', WHERE WHAT IT READS IS OF BULK AT MOST 1048576: true; the input reads as it did. -/
def artifactFullUptoRow : OpenClaim := { program := "ytclinbpkcmcokaadoor", sum := "dade2823054437ee86cbc4e49fd56ebb4cd451658f52efb0634f9f9e9dfec6f5", func := "pipeline/pipelinelaw34.ArtifactFull", spec := "artifactFull", inPlace := ["internal/bytealg.CountString", "internal/bytealg.IndexByteString", "internal/bytealg.IndexString"], unfollowed := true, recurses := true, named := ["unicode/utf8.first", "unicode/utf8.acceptRanges", "internal/bytealg.MaxLen"], apart := false, laid := [("unicode/utf8.acceptRanges", laid_unicode_utf8_acceptRanges), ("unicode/utf8.first", laid_unicode_utf8_first)], narrowed := true }
def ArtifactFullUptoSaid : Prop := artifactFullUptoRow.holds Tryd.pinned (OpenSpec.upto artifactFullSpec)

/-- 'pipelinelaw34.ArtifactKeeps', WHERE WHAT IT READS IS OF BULK AT MOST 1048576: true; the input reads as it did. -/
def artifactKeepsUptoRow : OpenClaim := { program := "ytclinbpkcmcokaadoor", sum := "dade2823054437ee86cbc4e49fd56ebb4cd451658f52efb0634f9f9e9dfec6f5", func := "pipeline/pipelinelaw34.ArtifactKeeps", spec := "artifactKeeps", inPlace := ["internal/bytealg.CountString", "internal/bytealg.IndexByteString", "internal/bytealg.IndexString"], unfollowed := true, recurses := true, named := ["unicode/utf8.first", "unicode/utf8.acceptRanges", "internal/bytealg.MaxLen"], apart := false, laid := [("unicode/utf8.acceptRanges", laid_unicode_utf8_acceptRanges), ("unicode/utf8.first", laid_unicode_utf8_first)], narrowed := true }
def ArtifactKeepsUptoSaid : Prop := artifactKeepsUptoRow.holds Tryd.pinned (OpenSpec.upto artifactKeepsSpec)

/-- 'pipelinelaw34.ArtifactGets', WHERE WHAT IT READS IS OF BULK AT MOST 1048576: true; the input reads as it did. -/
def artifactGetsUptoRow : OpenClaim := { program := "ytclinbpkcmcokaadoor", sum := "dade2823054437ee86cbc4e49fd56ebb4cd451658f52efb0634f9f9e9dfec6f5", func := "pipeline/pipelinelaw34.ArtifactGets", spec := "artifactGets", inPlace := ["internal/bytealg.CountString", "internal/bytealg.IndexByteString", "internal/bytealg.IndexString"], unfollowed := true, recurses := true, named := ["unicode/utf8.first", "unicode/utf8.acceptRanges", "internal/bytealg.MaxLen"], apart := false, laid := [("unicode/utf8.acceptRanges", laid_unicode_utf8_acceptRanges), ("unicode/utf8.first", laid_unicode_utf8_first)], narrowed := true }
def ArtifactGetsUptoSaid : Prop := artifactGetsUptoRow.holds Tryd.pinned (OpenSpec.upto artifactGetsSpec)

end Rows
end Go.Proofs.YtclinbpkcmcokaaDoor
