/-
  NARROWER THAN 'FOR EVERY INPUT', by the rows' own cells (each row's printed sentence says how): LabelValid: laid · LabelSatisfies: laid · LabelImplies: laid · LabelSound: laid · LabelComplete: laid · LabelOrder: laid · LabelNeed: laid.
  DERIVED. THE GIVEN ROWS OF THIS SEAT. 7 by the template 'for every input the law returns true; each argument reads behind the call as it read before'; 0 by the template 'total and deterministic' (their statements: YtppbblgdcckbdaaDoorTotals.lean).
  GIVEN WITH THE SEED: the statements are not yours to turn. If you find one false, say at which input.
  Laid BY PROGRAM, IN A SANDBOX (cutbox-rows.mjs): the forced cells as the released guide's own fill.sh prints them over the translation c73f2cb70fd8ac4a… (all of the seat's roots in one cut). By AI agents, Wed Nov 11 2026. No macro, syntax, notation, axiom, sorry.
-/
import Derived.Test.YtppbblgdcckbdaaDoorChecked
import GoSem.PinnedTables
import GoSem.Claim
import GoSem.ClaimJoined
import GoSem.ClaimMapViews
import Derived.JoinedTies
import Derived.KernelRfl
namespace Go.Proofs.YtppbblgdcckbdaaDoor
/- THE CELL 'sum', in the pinned program and in every row, IS THE sha256 OF THE DUMP (.gsa) THAT YtppbblgdcckbdaaDoorProg.lean LOADS. Nothing in Lean hashes anything: it is a label: what it is worth is what the hold of that sum in a sandbox is worth. -/
noncomputable def Tryd.pinned : Pinned := { name := "ytppbblgdcckbdaadoor", sum := "c73f2cb70fd8ac4aaff9fb4295e7f962b6a2297b6ea06b5ed6a635062a4fe893", checked := Tryd.checked }
namespace Rows
def none {H : Type} : Left H := { results := [], args := [] }

/- WHAT THE LISTED PACKAGE-LEVEL VARIABLES READ AS WHEN THE CALL BEGINS. Each datum BY PROGRAM (the guide's laid-datum.mjs) off the statement by which the dump's own 'gosem.cut.vars' lays the variable. In a bare row this is a premise. The card (YtppbblgdcckbdaaDoorCards.lean) ties it to the program's text. -/
def laid_unicode_utf8_acceptRanges {H : Type} : DataW H := .agg [.agg [.lit (.int .u8 128), .lit (.int .u8 191)], .agg [.lit (.int .u8 160), .lit (.int .u8 191)], .agg [.lit (.int .u8 128), .lit (.int .u8 159)], .agg [.lit (.int .u8 144), .lit (.int .u8 191)], .agg [.lit (.int .u8 128), .lit (.int .u8 143)], .agg [.lit (.int .u8 0), .lit (.int .u8 0)], .agg [.lit (.int .u8 0), .lit (.int .u8 0)], .agg [.lit (.int .u8 0), .lit (.int .u8 0)], .agg [.lit (.int .u8 0), .lit (.int .u8 0)], .agg [.lit (.int .u8 0), .lit (.int .u8 0)], .agg [.lit (.int .u8 0), .lit (.int .u8 0)], .agg [.lit (.int .u8 0), .lit (.int .u8 0)], .agg [.lit (.int .u8 0), .lit (.int .u8 0)], .agg [.lit (.int .u8 0), .lit (.int .u8 0)], .agg [.lit (.int .u8 0), .lit (.int .u8 0)], .agg [.lit (.int .u8 0), .lit (.int .u8 0)]]
/-- One of Go's own tables, pinned by name: the form's constant. -/
def laid_unicode_utf8_first : DataW Unit := Go.Pinned.utf8First

/-- 'pipelinelaw21.LabelValid': WHATEVER THE INPUT: true; the input reads as it did. -/
def labelValidSpec : ChangeSpec := { name := "labelValid", fn := fun _ => fun
  | [d] => { results := [.lit (.bool true)], args := [d] }
  | _ => none }
def labelValidRow : OpenClaim := { program := "ytppbblgdcckbdaadoor", sum := "c73f2cb70fd8ac4aaff9fb4295e7f962b6a2297b6ea06b5ed6a635062a4fe893", func := "pipeline/pipelinelaw21.LabelValid", spec := "labelValid", inPlace := ["internal/bytealg.IndexByteString", "internal/bytealg.IndexString"], unfollowed := true, recurses := true, named := ["internal/bytealg.MaxLen", "unicode/utf8.first", "unicode/utf8.acceptRanges"], apart := false, laid := [("unicode/utf8.acceptRanges", laid_unicode_utf8_acceptRanges), ("unicode/utf8.first", laid_unicode_utf8_first)] }
def LabelValidSaid : Prop := labelValidRow.holds Tryd.pinned (OpenSpec.ofChange labelValidSpec)

/-- ITS FALSE NEIGHBOUR: 'it returns false'. Refute it at one input. -/
def labelValidWrong : ChangeSpec := { name := "labelValid", fn := fun _ => fun
  | [d] => { results := [.lit (.bool false)], args := [d] }
  | _ => none }
def LabelValidWrongFalsely : Prop := labelValidRow.holds Tryd.pinned (OpenSpec.ofChange labelValidWrong)

/-- 'pipelinelaw21.LabelSatisfies': WHATEVER THE INPUT: true; the input reads as it did. -/
def labelSatisfiesSpec : ChangeSpec := { name := "labelSatisfies", fn := fun _ => fun
  | [d1, d2] => { results := [.lit (.bool true)], args := [d1, d2] }
  | _ => none }
def labelSatisfiesRow : OpenClaim := { program := "ytppbblgdcckbdaadoor", sum := "c73f2cb70fd8ac4aaff9fb4295e7f962b6a2297b6ea06b5ed6a635062a4fe893", func := "pipeline/pipelinelaw21.LabelSatisfies", spec := "labelSatisfies", inPlace := ["internal/bytealg.IndexByteString", "internal/bytealg.IndexString"], unfollowed := true, recurses := true, named := ["internal/bytealg.MaxLen", "unicode/utf8.first", "unicode/utf8.acceptRanges"], apart := false, laid := [("unicode/utf8.acceptRanges", laid_unicode_utf8_acceptRanges), ("unicode/utf8.first", laid_unicode_utf8_first)] }
def LabelSatisfiesSaid : Prop := labelSatisfiesRow.holds Tryd.pinned (OpenSpec.ofChange labelSatisfiesSpec)

/-- ITS FALSE NEIGHBOUR: 'it returns false'. Refute it at one input. -/
def labelSatisfiesWrong : ChangeSpec := { name := "labelSatisfies", fn := fun _ => fun
  | [d1, d2] => { results := [.lit (.bool false)], args := [d1, d2] }
  | _ => none }
def LabelSatisfiesWrongFalsely : Prop := labelSatisfiesRow.holds Tryd.pinned (OpenSpec.ofChange labelSatisfiesWrong)

/-- 'pipelinelaw21.LabelImplies': WHATEVER THE INPUT: true; the input reads as it did. -/
def labelImpliesSpec : ChangeSpec := { name := "labelImplies", fn := fun _ => fun
  | [d1, d2] => { results := [.lit (.bool true)], args := [d1, d2] }
  | _ => none }
def labelImpliesRow : OpenClaim := { program := "ytppbblgdcckbdaadoor", sum := "c73f2cb70fd8ac4aaff9fb4295e7f962b6a2297b6ea06b5ed6a635062a4fe893", func := "pipeline/pipelinelaw21.LabelImplies", spec := "labelImplies", inPlace := ["internal/bytealg.IndexByteString", "internal/bytealg.IndexString"], unfollowed := true, recurses := true, named := ["internal/bytealg.MaxLen", "unicode/utf8.first", "unicode/utf8.acceptRanges"], apart := false, laid := [("unicode/utf8.acceptRanges", laid_unicode_utf8_acceptRanges), ("unicode/utf8.first", laid_unicode_utf8_first)] }
def LabelImpliesSaid : Prop := labelImpliesRow.holds Tryd.pinned (OpenSpec.ofChange labelImpliesSpec)

/-- ITS FALSE NEIGHBOUR: 'it returns false'. Refute it at one input. -/
def labelImpliesWrong : ChangeSpec := { name := "labelImplies", fn := fun _ => fun
  | [d1, d2] => { results := [.lit (.bool false)], args := [d1, d2] }
  | _ => none }
def LabelImpliesWrongFalsely : Prop := labelImpliesRow.holds Tryd.pinned (OpenSpec.ofChange labelImpliesWrong)

/-- 'pipelinelaw21.LabelSound': WHATEVER THE INPUT: true; the input reads as it did. -/
def labelSoundSpec : ChangeSpec := { name := "labelSound", fn := fun _ => fun
  | [d1, d2, d3] => { results := [.lit (.bool true)], args := [d1, d2, d3] }
  | _ => none }
def labelSoundRow : OpenClaim := { program := "ytppbblgdcckbdaadoor", sum := "c73f2cb70fd8ac4aaff9fb4295e7f962b6a2297b6ea06b5ed6a635062a4fe893", func := "pipeline/pipelinelaw21.LabelSound", spec := "labelSound", inPlace := ["internal/bytealg.IndexByteString", "internal/bytealg.IndexString"], unfollowed := true, recurses := true, named := ["internal/bytealg.MaxLen", "unicode/utf8.first", "unicode/utf8.acceptRanges"], apart := false, laid := [("unicode/utf8.acceptRanges", laid_unicode_utf8_acceptRanges), ("unicode/utf8.first", laid_unicode_utf8_first)] }
def LabelSoundSaid : Prop := labelSoundRow.holds Tryd.pinned (OpenSpec.ofChange labelSoundSpec)

/-- ITS FALSE NEIGHBOUR: 'it returns false'. Refute it at one input. -/
def labelSoundWrong : ChangeSpec := { name := "labelSound", fn := fun _ => fun
  | [d1, d2, d3] => { results := [.lit (.bool false)], args := [d1, d2, d3] }
  | _ => none }
def LabelSoundWrongFalsely : Prop := labelSoundRow.holds Tryd.pinned (OpenSpec.ofChange labelSoundWrong)

/-- 'pipelinelaw21.LabelComplete': WHATEVER THE INPUT: true; the input reads as it did. -/
def labelCompleteSpec : ChangeSpec := { name := "labelComplete", fn := fun _ => fun
  | [d1, d2] => { results := [.lit (.bool true)], args := [d1, d2] }
  | _ => none }
def labelCompleteRow : OpenClaim := { program := "ytppbblgdcckbdaadoor", sum := "c73f2cb70fd8ac4aaff9fb4295e7f962b6a2297b6ea06b5ed6a635062a4fe893", func := "pipeline/pipelinelaw21.LabelComplete", spec := "labelComplete", inPlace := ["internal/bytealg.IndexByteString", "internal/bytealg.IndexString"], unfollowed := true, recurses := true, named := ["internal/bytealg.MaxLen", "unicode/utf8.first", "unicode/utf8.acceptRanges"], apart := false, laid := [("unicode/utf8.acceptRanges", laid_unicode_utf8_acceptRanges), ("unicode/utf8.first", laid_unicode_utf8_first)] }
def LabelCompleteSaid : Prop := labelCompleteRow.holds Tryd.pinned (OpenSpec.ofChange labelCompleteSpec)

/-- ITS FALSE NEIGHBOUR: 'it returns false'. Refute it at one input. -/
def labelCompleteWrong : ChangeSpec := { name := "labelComplete", fn := fun _ => fun
  | [d1, d2] => { results := [.lit (.bool false)], args := [d1, d2] }
  | _ => none }
def LabelCompleteWrongFalsely : Prop := labelCompleteRow.holds Tryd.pinned (OpenSpec.ofChange labelCompleteWrong)

/-- 'pipelinelaw21.LabelOrder': WHATEVER THE INPUT: true; the input reads as it did. -/
def labelOrderSpec : ChangeSpec := { name := "labelOrder", fn := fun _ => fun
  | [d1, d2, d3] => { results := [.lit (.bool true)], args := [d1, d2, d3] }
  | _ => none }
def labelOrderRow : OpenClaim := { program := "ytppbblgdcckbdaadoor", sum := "c73f2cb70fd8ac4aaff9fb4295e7f962b6a2297b6ea06b5ed6a635062a4fe893", func := "pipeline/pipelinelaw21.LabelOrder", spec := "labelOrder", inPlace := ["internal/bytealg.IndexByteString", "internal/bytealg.IndexString"], unfollowed := true, recurses := true, named := ["internal/bytealg.MaxLen", "unicode/utf8.first", "unicode/utf8.acceptRanges"], apart := false, laid := [("unicode/utf8.acceptRanges", laid_unicode_utf8_acceptRanges), ("unicode/utf8.first", laid_unicode_utf8_first)] }
def LabelOrderSaid : Prop := labelOrderRow.holds Tryd.pinned (OpenSpec.ofChange labelOrderSpec)

/-- ITS FALSE NEIGHBOUR: 'it returns false'. Refute it at one input. -/
def labelOrderWrong : ChangeSpec := { name := "labelOrder", fn := fun _ => fun
  | [d1, d2, d3] => { results := [.lit (.bool false)], args := [d1, d2, d3] }
  | _ => none }
def LabelOrderWrongFalsely : Prop := labelOrderRow.holds Tryd.pinned (OpenSpec.ofChange labelOrderWrong)

/-- 'pipelinelaw21.LabelNeed': WHATEVER THE INPUT: true; the input reads as it did. -/
def labelNeedSpec : ChangeSpec := { name := "labelNeed", fn := fun _ => fun
  | [d] => { results := [.lit (.bool true)], args := [d] }
  | _ => none }
def labelNeedRow : OpenClaim := { program := "ytppbblgdcckbdaadoor", sum := "c73f2cb70fd8ac4aaff9fb4295e7f962b6a2297b6ea06b5ed6a635062a4fe893", func := "pipeline/pipelinelaw21.LabelNeed", spec := "labelNeed", inPlace := ["internal/bytealg.IndexByteString", "internal/bytealg.IndexString"], unfollowed := true, recurses := true, named := ["internal/bytealg.MaxLen", "unicode/utf8.first", "unicode/utf8.acceptRanges"], apart := false, laid := [("unicode/utf8.acceptRanges", laid_unicode_utf8_acceptRanges), ("unicode/utf8.first", laid_unicode_utf8_first)] }
def LabelNeedSaid : Prop := labelNeedRow.holds Tryd.pinned (OpenSpec.ofChange labelNeedSpec)

/-- ITS FALSE NEIGHBOUR: 'it returns false'. Refute it at one input. -/
def labelNeedWrong : ChangeSpec := { name := "labelNeed", fn := fun _ => fun
  | [d] => { results := [.lit (.bool false)], args := [d] }
  | _ => none }
def LabelNeedWrongFalsely : Prop := labelNeedRow.holds Tryd.pinned (OpenSpec.ofChange labelNeedWrong)

/- THE SECOND FORM. 'bulk': how many values and letters a reading holds, each counted each time it is reached (what is shared counts as often as it is met; a slice's spare places count too). A statement '..UptoSaid' is the law's where the arguments, and the package variables that the reading takes, are together of bulk at most 1048576: NARROWER than '..Said'. Prove '..Said' where nothing that the law and all that it calls make is longer than what came in: it says more and counts as full. Else prove '..UptoSaid'. A law counts once. -/
mutual
def uptoBulk {H : Type} : DataW H → Nat
  | .lit (.string bytes) => bytes.length + 1
  | .lit _ => 1
  | .nil => 1
  | .ptr d => uptoBulk d + 1
  | .slice elems spare => uptoBulkAll elems + uptoBulkAll spare + 1
  | .agg parts => uptoBulkAll parts + 1
  | .iface _ d => uptoBulk d + 1
  | .map entries => uptoBulkEntries entries + 1
  | .held _ => 1
def uptoBulkAll {H : Type} : List (DataW H) → Nat
  | [] => 0
  | d :: r => uptoBulk d + uptoBulkAll r
def uptoBulkEntries {H : Type} : List (Lit × DataW H) → Nat
  | [] => 0
  | x :: r => uptoBulkEntry x + uptoBulkEntries r
def uptoBulkEntry {H : Type} : Lit × DataW H → Nat
  | (.string bytes, d) => bytes.length + uptoBulk d + 1
  | (_, d) => uptoBulk d + 1
 end
def uptoSmall : (H : Type) → List (DataW H) → Bool := fun _ ds => decide (uptoBulkAll ds ≤ 1048576)
def OpenSpec.upto (s : _root_.Go.ChangeSpec) : _root_.Go.OpenSpec := { _root_.Go.OpenSpec.ofChange s with cond := some uptoSmall }

/-- 'pipelinelaw21.LabelValid', WHERE WHAT IT READS IS OF BULK AT MOST 1048576: true; the input reads as it did. -/
def labelValidUptoRow : OpenClaim := { program := "ytppbblgdcckbdaadoor", sum := "c73f2cb70fd8ac4aaff9fb4295e7f962b6a2297b6ea06b5ed6a635062a4fe893", func := "pipeline/pipelinelaw21.LabelValid", spec := "labelValid", inPlace := ["internal/bytealg.IndexByteString", "internal/bytealg.IndexString"], unfollowed := true, recurses := true, named := ["internal/bytealg.MaxLen", "unicode/utf8.first", "unicode/utf8.acceptRanges"], apart := false, laid := [("unicode/utf8.acceptRanges", laid_unicode_utf8_acceptRanges), ("unicode/utf8.first", laid_unicode_utf8_first)], narrowed := true }
def LabelValidUptoSaid : Prop := labelValidUptoRow.holds Tryd.pinned (OpenSpec.upto labelValidSpec)

/-- 'pipelinelaw21.LabelSatisfies', WHERE WHAT IT READS IS OF BULK AT MOST 1048576: true; the input reads as it did. -/
def labelSatisfiesUptoRow : OpenClaim := { program := "ytppbblgdcckbdaadoor", sum := "c73f2cb70fd8ac4aaff9fb4295e7f962b6a2297b6ea06b5ed6a635062a4fe893", func := "pipeline/pipelinelaw21.LabelSatisfies", spec := "labelSatisfies", inPlace := ["internal/bytealg.IndexByteString", "internal/bytealg.IndexString"], unfollowed := true, recurses := true, named := ["internal/bytealg.MaxLen", "unicode/utf8.first", "unicode/utf8.acceptRanges"], apart := false, laid := [("unicode/utf8.acceptRanges", laid_unicode_utf8_acceptRanges), ("unicode/utf8.first", laid_unicode_utf8_first)], narrowed := true }
def LabelSatisfiesUptoSaid : Prop := labelSatisfiesUptoRow.holds Tryd.pinned (OpenSpec.upto labelSatisfiesSpec)

/-- 'pipelinelaw21.LabelImplies', WHERE WHAT IT READS IS OF BULK AT MOST 1048576: true; the input reads as it did. -/
def labelImpliesUptoRow : OpenClaim := { program := "ytppbblgdcckbdaadoor", sum := "c73f2cb70fd8ac4aaff9fb4295e7f962b6a2297b6ea06b5ed6a635062a4fe893", func := "pipeline/pipelinelaw21.LabelImplies", spec := "labelImplies", inPlace := ["internal/bytealg.IndexByteString", "internal/bytealg.IndexString"], unfollowed := true, recurses := true, named := ["internal/bytealg.MaxLen", "unicode/utf8.first", "unicode/utf8.acceptRanges"], apart := false, laid := [("unicode/utf8.acceptRanges", laid_unicode_utf8_acceptRanges), ("unicode/utf8.first", laid_unicode_utf8_first)], narrowed := true }
def LabelImpliesUptoSaid : Prop := labelImpliesUptoRow.holds Tryd.pinned (OpenSpec.upto labelImpliesSpec)

/-- 'pipelinelaw21.LabelSound', WHERE WHAT IT READS IS OF BULK AT MOST 1048576: true; the input reads as it did. -/
def labelSoundUptoRow : OpenClaim := { program := "ytppbblgdcckbdaadoor", sum := "c73f2cb70fd8ac4aaff9fb4295e7f962b6a2297b6ea06b5ed6a635062a4fe893", func := "pipeline/pipelinelaw21.LabelSound", spec := "labelSound", inPlace := ["internal/bytealg.IndexByteString", "internal/bytealg.IndexString"], unfollowed := true, recurses := true, named := ["internal/bytealg.MaxLen", "unicode/utf8.first", "unicode/utf8.acceptRanges"], apart := false, laid := [("unicode/utf8.acceptRanges", laid_unicode_utf8_acceptRanges), ("unicode/utf8.first", laid_unicode_utf8_first)], narrowed := true }
def LabelSoundUptoSaid : Prop := labelSoundUptoRow.holds Tryd.pinned (OpenSpec.upto labelSoundSpec)

/-- 'pipelinelaw21.LabelComplete', WHERE WHAT IT READS IS OF BULK AT MOST 1048576: true; the input reads as it did. -/
def labelCompleteUptoRow : OpenClaim := { program := "ytppbblgdcckbdaadoor", sum := "c73f2cb70fd8ac4aaff9fb4295e7f962b6a2297b6ea06b5ed6a635062a4fe893", func := "pipeline/pipelinelaw21.LabelComplete", spec := "labelComplete", inPlace := ["internal/bytealg.IndexByteString", "internal/bytealg.IndexString"], unfollowed := true, recurses := true, named := ["internal/bytealg.MaxLen", "unicode/utf8.first", "unicode/utf8.acceptRanges"], apart := false, laid := [("unicode/utf8.acceptRanges", laid_unicode_utf8_acceptRanges), ("unicode/utf8.first", laid_unicode_utf8_first)], narrowed := true }
def LabelCompleteUptoSaid : Prop := labelCompleteUptoRow.holds Tryd.pinned (OpenSpec.upto labelCompleteSpec)

/-- 'pipelinelaw21.LabelOrder', WHERE WHAT IT READS IS OF BULK AT MOST 1048576: true; the input reads as it did. -/
def labelOrderUptoRow : OpenClaim := { program := "ytppbblgdcckbdaadoor", sum := "c73f2cb70fd8ac4aaff9fb4295e7f962b6a2297b6ea06b5ed6a635062a4fe893", func := "pipeline/pipelinelaw21.LabelOrder", spec := "labelOrder", inPlace := ["internal/bytealg.IndexByteString", "internal/bytealg.IndexString"], unfollowed := true, recurses := true, named := ["internal/bytealg.MaxLen", "unicode/utf8.first", "unicode/utf8.acceptRanges"], apart := false, laid := [("unicode/utf8.acceptRanges", laid_unicode_utf8_acceptRanges), ("unicode/utf8.first", laid_unicode_utf8_first)], narrowed := true }
def LabelOrderUptoSaid : Prop := labelOrderUptoRow.holds Tryd.pinned (OpenSpec.upto labelOrderSpec)

/-- 'pipelinelaw21.LabelNeed', WHERE WHAT IT READS IS OF BULK AT MOST 1048576: true; the input reads as it did. -/
def labelNeedUptoRow : OpenClaim := { program := "ytppbblgdcckbdaadoor", sum := "c73f2cb70fd8ac4aaff9fb4295e7f962b6a2297b6ea06b5ed6a635062a4fe893", func := "pipeline/pipelinelaw21.LabelNeed", spec := "labelNeed", inPlace := ["internal/bytealg.IndexByteString", "internal/bytealg.IndexString"], unfollowed := true, recurses := true, named := ["internal/bytealg.MaxLen", "unicode/utf8.first", "unicode/utf8.acceptRanges"], apart := false, laid := [("unicode/utf8.acceptRanges", laid_unicode_utf8_acceptRanges), ("unicode/utf8.first", laid_unicode_utf8_first)], narrowed := true }
def LabelNeedUptoSaid : Prop := labelNeedUptoRow.holds Tryd.pinned (OpenSpec.upto labelNeedSpec)

end Rows
end Go.Proofs.YtppbblgdcckbdaaDoor
