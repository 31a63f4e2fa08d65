/-
  NARROWER THAN 'FOR EVERY INPUT', by the rows' own cells (each row's printed sentence says how): TypingValid: loops, laid · TypingOf: loops, laid · TypingBounds: loops, laid · TypingLattice: loops, laid · TypingElements: loops, laid · TypingText: loops, laid · TypingBack: loops, laid · TypingNests: laid.
  DERIVED. THE GIVEN ROWS OF THIS SEAT. 8 by the template 'for every input the law returns true; each argument reads behind the call as it read before'; 0 by the template 'total and deterministic' (their statements: YtgcpffbaejodiaaDoorTotals.lean).
  GIVEN WITH THE SEED: the statements are not yours to turn. If you find one false, say at which input.
  Laid BY PROGRAM, IN A SANDBOX (cutbox-rows.mjs): the forced cells as the released guide's own fill.sh prints them over the translation 9faeaea7594febe9… (all of the seat's roots in one cut). By AI agents, Wed Nov 11 2026. No macro, syntax, notation, axiom, sorry.
-/
import Derived.Test.YtgcpffbaejodiaaDoorChecked
import GoSem.PinnedTables
import GoSem.Claim
import GoSem.ClaimJoined
import GoSem.ClaimMapViews
import Derived.JoinedTies
import Derived.KernelRfl
namespace Go.Proofs.YtgcpffbaejodiaaDoor
/- THE CELL 'sum', in the pinned program and in every row, IS THE sha256 OF THE DUMP (.gsa) THAT YtgcpffbaejodiaaDoorProg.lean LOADS. Nothing in Lean hashes anything: it is a label: what it is worth is what the hold of that sum in a sandbox is worth. -/
noncomputable def Tryd.pinned : Pinned := { name := "ytgcpffbaejodiaadoor", sum := "9faeaea7594febe9d863d14a0ba1f11105b1aaa429543f67246374c3e82438db", checked := Tryd.checked }
namespace Rows
def none {H : Type} : Left H := { results := [], args := [] }

/- WHAT THE LISTED PACKAGE-LEVEL VARIABLES READ AS WHEN THE CALL BEGINS. Each datum BY PROGRAM (the guide's laid-datum.mjs) off the statement by which the dump's own 'gosem.cut.vars' lays the variable. In a bare row this is a premise. The card (YtgcpffbaejodiaaDoorCards.lean) ties it to the program's text. -/
def laid_unicode_utf8_acceptRanges {H : Type} : DataW H := .agg [.agg [.lit (.int .u8 128), .lit (.int .u8 191)], .agg [.lit (.int .u8 160), .lit (.int .u8 191)], .agg [.lit (.int .u8 128), .lit (.int .u8 159)], .agg [.lit (.int .u8 144), .lit (.int .u8 191)], .agg [.lit (.int .u8 128), .lit (.int .u8 143)], .agg [.lit (.int .u8 0), .lit (.int .u8 0)], .agg [.lit (.int .u8 0), .lit (.int .u8 0)], .agg [.lit (.int .u8 0), .lit (.int .u8 0)], .agg [.lit (.int .u8 0), .lit (.int .u8 0)], .agg [.lit (.int .u8 0), .lit (.int .u8 0)], .agg [.lit (.int .u8 0), .lit (.int .u8 0)], .agg [.lit (.int .u8 0), .lit (.int .u8 0)], .agg [.lit (.int .u8 0), .lit (.int .u8 0)], .agg [.lit (.int .u8 0), .lit (.int .u8 0)], .agg [.lit (.int .u8 0), .lit (.int .u8 0)], .agg [.lit (.int .u8 0), .lit (.int .u8 0)]]
/-- One of Go's own tables, pinned by name: the form's constant. -/
def laid_unicode_utf8_first : DataW Unit := Go.Pinned.utf8First

/-- 'pipelinelaw08.TypingValid': WHATEVER THE INPUT: true; the input reads as it did. -/
def typingValidSpec : ChangeSpec := { name := "typingValid", fn := fun _ => fun
  | [d] => { results := [.lit (.bool true)], args := [d] }
  | _ => none }
def typingValidRow : OpenClaim := { program := "ytgcpffbaejodiaadoor", sum := "9faeaea7594febe9d863d14a0ba1f11105b1aaa429543f67246374c3e82438db", func := "pipeline/pipelinelaw08.TypingValid", spec := "typingValid", inPlace := ["internal/bytealg.IndexByteString", "internal/bytealg.IndexString"], unfollowed := true, recurses := true, named := ["unicode/utf8.first", "unicode/utf8.acceptRanges", "internal/bytealg.MaxLen"], loops := true, apart := false, laid := [("unicode/utf8.acceptRanges", laid_unicode_utf8_acceptRanges), ("unicode/utf8.first", laid_unicode_utf8_first)] }
def TypingValidSaid : Prop := typingValidRow.holds Tryd.pinned (OpenSpec.ofChange typingValidSpec)

/-- ITS FALSE NEIGHBOUR: 'it returns false'. Refute it at one input. -/
def typingValidWrong : ChangeSpec := { name := "typingValid", fn := fun _ => fun
  | [d] => { results := [.lit (.bool false)], args := [d] }
  | _ => none }
def TypingValidWrongFalsely : Prop := typingValidRow.holds Tryd.pinned (OpenSpec.ofChange typingValidWrong)

/-- 'pipelinelaw08.TypingOf': WHATEVER THE INPUT: true; the input reads as it did. -/
def typingOfSpec : ChangeSpec := { name := "typingOf", fn := fun _ => fun
  | [d1, d2] => { results := [.lit (.bool true)], args := [d1, d2] }
  | _ => none }
def typingOfRow : OpenClaim := { program := "ytgcpffbaejodiaadoor", sum := "9faeaea7594febe9d863d14a0ba1f11105b1aaa429543f67246374c3e82438db", func := "pipeline/pipelinelaw08.TypingOf", spec := "typingOf", inPlace := ["internal/bytealg.IndexByteString", "internal/bytealg.IndexString"], unfollowed := true, recurses := true, named := ["unicode/utf8.first", "unicode/utf8.acceptRanges", "internal/bytealg.MaxLen"], loops := true, apart := false, laid := [("unicode/utf8.acceptRanges", laid_unicode_utf8_acceptRanges), ("unicode/utf8.first", laid_unicode_utf8_first)] }
def TypingOfSaid : Prop := typingOfRow.holds Tryd.pinned (OpenSpec.ofChange typingOfSpec)

/-- ITS FALSE NEIGHBOUR: 'it returns false'. Refute it at one input. -/
def typingOfWrong : ChangeSpec := { name := "typingOf", fn := fun _ => fun
  | [d1, d2] => { results := [.lit (.bool false)], args := [d1, d2] }
  | _ => none }
def TypingOfWrongFalsely : Prop := typingOfRow.holds Tryd.pinned (OpenSpec.ofChange typingOfWrong)

/-- 'pipelinelaw08.TypingBounds': WHATEVER THE INPUT: true; the input reads as it did. -/
def typingBoundsSpec : ChangeSpec := { name := "typingBounds", fn := fun _ => fun
  | [d1, d2] => { results := [.lit (.bool true)], args := [d1, d2] }
  | _ => none }
def typingBoundsRow : OpenClaim := { program := "ytgcpffbaejodiaadoor", sum := "9faeaea7594febe9d863d14a0ba1f11105b1aaa429543f67246374c3e82438db", func := "pipeline/pipelinelaw08.TypingBounds", spec := "typingBounds", inPlace := ["internal/bytealg.IndexByteString", "internal/bytealg.IndexString"], unfollowed := true, recurses := true, named := ["unicode/utf8.first", "unicode/utf8.acceptRanges", "internal/bytealg.MaxLen"], loops := true, apart := false, laid := [("unicode/utf8.acceptRanges", laid_unicode_utf8_acceptRanges), ("unicode/utf8.first", laid_unicode_utf8_first)] }
def TypingBoundsSaid : Prop := typingBoundsRow.holds Tryd.pinned (OpenSpec.ofChange typingBoundsSpec)

/-- ITS FALSE NEIGHBOUR: 'it returns false'. Refute it at one input. -/
def typingBoundsWrong : ChangeSpec := { name := "typingBounds", fn := fun _ => fun
  | [d1, d2] => { results := [.lit (.bool false)], args := [d1, d2] }
  | _ => none }
def TypingBoundsWrongFalsely : Prop := typingBoundsRow.holds Tryd.pinned (OpenSpec.ofChange typingBoundsWrong)

/-- 'pipelinelaw08.TypingLattice': WHATEVER THE INPUT: true; the input reads as it did. -/
def typingLatticeSpec : ChangeSpec := { name := "typingLattice", fn := fun _ => fun
  | [d1, d2] => { results := [.lit (.bool true)], args := [d1, d2] }
  | _ => none }
def typingLatticeRow : OpenClaim := { program := "ytgcpffbaejodiaadoor", sum := "9faeaea7594febe9d863d14a0ba1f11105b1aaa429543f67246374c3e82438db", func := "pipeline/pipelinelaw08.TypingLattice", spec := "typingLattice", inPlace := ["internal/bytealg.IndexByteString", "internal/bytealg.IndexString"], unfollowed := true, recurses := true, named := ["unicode/utf8.first", "unicode/utf8.acceptRanges", "internal/bytealg.MaxLen"], loops := true, apart := false, laid := [("unicode/utf8.acceptRanges", laid_unicode_utf8_acceptRanges), ("unicode/utf8.first", laid_unicode_utf8_first)] }
def TypingLatticeSaid : Prop := typingLatticeRow.holds Tryd.pinned (OpenSpec.ofChange typingLatticeSpec)

/-- ITS FALSE NEIGHBOUR: 'it returns false'. Refute it at one input. -/
def typingLatticeWrong : ChangeSpec := { name := "typingLattice", fn := fun _ => fun
  | [d1, d2] => { results := [.lit (.bool false)], args := [d1, d2] }
  | _ => none }
def TypingLatticeWrongFalsely : Prop := typingLatticeRow.holds Tryd.pinned (OpenSpec.ofChange typingLatticeWrong)

/-- 'pipelinelaw08.TypingElements': WHATEVER THE INPUT: true; the input reads as it did. -/
def typingElementsSpec : ChangeSpec := { name := "typingElements", fn := fun _ => fun
  | [d1, d2] => { results := [.lit (.bool true)], args := [d1, d2] }
  | _ => none }
def typingElementsRow : OpenClaim := { program := "ytgcpffbaejodiaadoor", sum := "9faeaea7594febe9d863d14a0ba1f11105b1aaa429543f67246374c3e82438db", func := "pipeline/pipelinelaw08.TypingElements", spec := "typingElements", inPlace := ["internal/bytealg.IndexByteString", "internal/bytealg.IndexString"], unfollowed := true, recurses := true, named := ["unicode/utf8.first", "unicode/utf8.acceptRanges", "internal/bytealg.MaxLen"], loops := true, apart := false, laid := [("unicode/utf8.acceptRanges", laid_unicode_utf8_acceptRanges), ("unicode/utf8.first", laid_unicode_utf8_first)] }
def TypingElementsSaid : Prop := typingElementsRow.holds Tryd.pinned (OpenSpec.ofChange typingElementsSpec)

/-- ITS FALSE NEIGHBOUR: 'it returns false'. Refute it at one input. -/
def typingElementsWrong : ChangeSpec := { name := "typingElements", fn := fun _ => fun
  | [d1, d2] => { results := [.lit (.bool false)], args := [d1, d2] }
  | _ => none }
def TypingElementsWrongFalsely : Prop := typingElementsRow.holds Tryd.pinned (OpenSpec.ofChange typingElementsWrong)

/-- 'pipelinelaw08.TypingText': WHATEVER THE INPUT: true; the input reads as it did. -/
def typingTextSpec : ChangeSpec := { name := "typingText", fn := fun _ => fun
  | [d1, d2] => { results := [.lit (.bool true)], args := [d1, d2] }
  | _ => none }
def typingTextRow : OpenClaim := { program := "ytgcpffbaejodiaadoor", sum := "9faeaea7594febe9d863d14a0ba1f11105b1aaa429543f67246374c3e82438db", func := "pipeline/pipelinelaw08.TypingText", spec := "typingText", inPlace := ["internal/bytealg.IndexByteString", "internal/bytealg.IndexString"], unfollowed := true, recurses := true, named := ["unicode/utf8.first", "unicode/utf8.acceptRanges", "internal/bytealg.MaxLen"], loops := true, apart := false, laid := [("unicode/utf8.acceptRanges", laid_unicode_utf8_acceptRanges), ("unicode/utf8.first", laid_unicode_utf8_first)] }
def TypingTextSaid : Prop := typingTextRow.holds Tryd.pinned (OpenSpec.ofChange typingTextSpec)

/-- ITS FALSE NEIGHBOUR: 'it returns false'. Refute it at one input. -/
def typingTextWrong : ChangeSpec := { name := "typingText", fn := fun _ => fun
  | [d1, d2] => { results := [.lit (.bool false)], args := [d1, d2] }
  | _ => none }
def TypingTextWrongFalsely : Prop := typingTextRow.holds Tryd.pinned (OpenSpec.ofChange typingTextWrong)

/-- 'pipelinelaw08.TypingBack': WHATEVER THE INPUT: true; the input reads as it did. -/
def typingBackSpec : ChangeSpec := { name := "typingBack", fn := fun _ => fun
  | [d1, d2] => { results := [.lit (.bool true)], args := [d1, d2] }
  | _ => none }
def typingBackRow : OpenClaim := { program := "ytgcpffbaejodiaadoor", sum := "9faeaea7594febe9d863d14a0ba1f11105b1aaa429543f67246374c3e82438db", func := "pipeline/pipelinelaw08.TypingBack", spec := "typingBack", inPlace := ["internal/bytealg.IndexByteString", "internal/bytealg.IndexString"], unfollowed := true, recurses := true, named := ["unicode/utf8.first", "unicode/utf8.acceptRanges", "internal/bytealg.MaxLen"], loops := true, apart := false, laid := [("unicode/utf8.acceptRanges", laid_unicode_utf8_acceptRanges), ("unicode/utf8.first", laid_unicode_utf8_first)] }
def TypingBackSaid : Prop := typingBackRow.holds Tryd.pinned (OpenSpec.ofChange typingBackSpec)

/-- ITS FALSE NEIGHBOUR: 'it returns false'. Refute it at one input. -/
def typingBackWrong : ChangeSpec := { name := "typingBack", fn := fun _ => fun
  | [d1, d2] => { results := [.lit (.bool false)], args := [d1, d2] }
  | _ => none }
def TypingBackWrongFalsely : Prop := typingBackRow.holds Tryd.pinned (OpenSpec.ofChange typingBackWrong)

/-- 'pipelinelaw08.TypingNests': WHATEVER THE INPUT: true; the input reads as it did. -/
def typingNestsSpec : ChangeSpec := { name := "typingNests", fn := fun _ => fun
  | [d] => { results := [.lit (.bool true)], args := [d] }
  | _ => none }
def typingNestsRow : OpenClaim := { program := "ytgcpffbaejodiaadoor", sum := "9faeaea7594febe9d863d14a0ba1f11105b1aaa429543f67246374c3e82438db", func := "pipeline/pipelinelaw08.TypingNests", spec := "typingNests", inPlace := ["internal/bytealg.IndexByteString", "internal/bytealg.IndexString"], unfollowed := true, recurses := true, named := ["unicode/utf8.first", "unicode/utf8.acceptRanges", "internal/bytealg.MaxLen"], apart := false, laid := [("unicode/utf8.acceptRanges", laid_unicode_utf8_acceptRanges), ("unicode/utf8.first", laid_unicode_utf8_first)] }
def TypingNestsSaid : Prop := typingNestsRow.holds Tryd.pinned (OpenSpec.ofChange typingNestsSpec)

/-- ITS FALSE NEIGHBOUR: 'it returns false'. Refute it at one input. -/
def typingNestsWrong : ChangeSpec := { name := "typingNests", fn := fun _ => fun
  | [d] => { results := [.lit (.bool false)], args := [d] }
  | _ => none }
def TypingNestsWrongFalsely : Prop := typingNestsRow.holds Tryd.pinned (OpenSpec.ofChange typingNestsWrong)

/- THE SECOND FORM. 'bulk': how many values and letters a reading holds, each counted each time it is reached (what is shared counts as often as it is met; a slice's spare places count too). A statement '..UptoSaid' is the law's where the arguments, and the package variables that the reading takes, are together of bulk at most 1048576: NARROWER than '..Said'. Prove '..Said' where nothing that the law and all that it calls make is longer than what came in: it says more and counts as full. Else prove '..UptoSaid'. A law counts once. -/
mutual
def uptoBulk {H : Type} : DataW H → Nat
  | .lit (.string bytes) => bytes.length + 1
  | .lit _ => 1
  | .nil => 1
  | .ptr d => uptoBulk d + 1
  | .slice elems spare => uptoBulkAll elems + uptoBulkAll spare + 1
  | .agg parts => uptoBulkAll parts + 1
  | .iface _ d => uptoBulk d + 1
  | .map entries => uptoBulkEntries entries + 1
  | .held _ => 1
def uptoBulkAll {H : Type} : List (DataW H) → Nat
  | [] => 0
  | d :: r => uptoBulk d + uptoBulkAll r
def uptoBulkEntries {H : Type} : List (Lit × DataW H) → Nat
  | [] => 0
  | x :: r => uptoBulkEntry x + uptoBulkEntries r
def uptoBulkEntry {H : Type} : Lit × DataW H → Nat
  | (.string bytes, d) => bytes.length + uptoBulk d + 1
  | (_, d) => uptoBulk d + 1
 end
def uptoSmall : (H : Type) → List (DataW H) → Bool := fun _ ds => decide (uptoBulkAll ds ≤ 1048576)
def OpenSpec.upto (s : _root_.Go.ChangeSpec) : _root_.Go.OpenSpec := { _root_.Go.OpenSpec.ofChange s with cond := some uptoSmall }

/-- 'pipelinelaw08.TypingValid', WHERE WHAT IT READS IS OF BULK AT MOST 1048576: true; the input reads as it did. -/
def typingValidUptoRow : OpenClaim := { program := "ytgcpffbaejodiaadoor", sum := "9faeaea7594febe9d863d14a0ba1f11105b1aaa429543f67246374c3e82438db", func := "pipeline/pipelinelaw08.TypingValid", spec := "typingValid", inPlace := ["internal/bytealg.IndexByteString", "internal/bytealg.IndexString"], unfollowed := true, recurses := true, named := ["unicode/utf8.first", "unicode/utf8.acceptRanges", "internal/bytealg.MaxLen"], loops := true, apart := false, laid := [("unicode/utf8.acceptRanges", laid_unicode_utf8_acceptRanges), ("unicode/utf8.first", laid_unicode_utf8_first)], narrowed := true }
def TypingValidUptoSaid : Prop := typingValidUptoRow.holds Tryd.pinned (OpenSpec.upto typingValidSpec)

/-- 'pipelinelaw08.TypingOf', WHERE WHAT IT READS IS OF BULK AT MOST 1048576: true; the input reads as it did. -/
def typingOfUptoRow : OpenClaim := { program := "ytgcpffbaejodiaadoor", sum := "9faeaea7594febe9d863d14a0ba1f11105b1aaa429543f67246374c3e82438db", func := "pipeline/pipelinelaw08.TypingOf", spec := "typingOf", inPlace := ["internal/bytealg.IndexByteString", "internal/bytealg.IndexString"], unfollowed := true, recurses := true, named := ["unicode/utf8.first", "unicode/utf8.acceptRanges", "internal/bytealg.MaxLen"], loops := true, apart := false, laid := [("unicode/utf8.acceptRanges", laid_unicode_utf8_acceptRanges), ("unicode/utf8.first", laid_unicode_utf8_first)], narrowed := true }
def TypingOfUptoSaid : Prop := typingOfUptoRow.holds Tryd.pinned (OpenSpec.upto typingOfSpec)

/-- 'pipelinelaw08.TypingBounds', WHERE WHAT IT READS IS OF BULK AT MOST 1048576: true; the input reads as it did. -/
def typingBoundsUptoRow : OpenClaim := { program := "ytgcpffbaejodiaadoor", sum := "9faeaea7594febe9d863d14a0ba1f11105b1aaa429543f67246374c3e82438db", func := "pipeline/pipelinelaw08.TypingBounds", spec := "typingBounds", inPlace := ["internal/bytealg.IndexByteString", "internal/bytealg.IndexString"], unfollowed := true, recurses := true, named := ["unicode/utf8.first", "unicode/utf8.acceptRanges", "internal/bytealg.MaxLen"], loops := true, apart := false, laid := [("unicode/utf8.acceptRanges", laid_unicode_utf8_acceptRanges), ("unicode/utf8.first", laid_unicode_utf8_first)], narrowed := true }
def TypingBoundsUptoSaid : Prop := typingBoundsUptoRow.holds Tryd.pinned (OpenSpec.upto typingBoundsSpec)

/-- 'pipelinelaw08.TypingLattice', WHERE WHAT IT READS IS OF BULK AT MOST 1048576: true; the input reads as it did. -/
def typingLatticeUptoRow : OpenClaim := { program := "ytgcpffbaejodiaadoor", sum := "9faeaea7594febe9d863d14a0ba1f11105b1aaa429543f67246374c3e82438db", func := "pipeline/pipelinelaw08.TypingLattice", spec := "typingLattice", inPlace := ["internal/bytealg.IndexByteString", "internal/bytealg.IndexString"], unfollowed := true, recurses := true, named := ["unicode/utf8.first", "unicode/utf8.acceptRanges", "internal/bytealg.MaxLen"], loops := true, apart := false, laid := [("unicode/utf8.acceptRanges", laid_unicode_utf8_acceptRanges), ("unicode/utf8.first", laid_unicode_utf8_first)], narrowed := true }
def TypingLatticeUptoSaid : Prop := typingLatticeUptoRow.holds Tryd.pinned (OpenSpec.upto typingLatticeSpec)

/-- 'pipelinelaw08.TypingElements', WHERE WHAT IT READS IS OF BULK AT MOST 1048576: true; the input reads as it did. -/
def typingElementsUptoRow : OpenClaim := { program := "ytgcpffbaejodiaadoor", sum := "9faeaea7594febe9d863d14a0ba1f11105b1aaa429543f67246374c3e82438db", func := "pipeline/pipelinelaw08.TypingElements", spec := "typingElements", inPlace := ["internal/bytealg.IndexByteString", "internal/bytealg.IndexString"], unfollowed := true, recurses := true, named := ["unicode/utf8.first", "unicode/utf8.acceptRanges", "internal/bytealg.MaxLen"], loops := true, apart := false, laid := [("unicode/utf8.acceptRanges", laid_unicode_utf8_acceptRanges), ("unicode/utf8.first", laid_unicode_utf8_first)], narrowed := true }
def TypingElementsUptoSaid : Prop := typingElementsUptoRow.holds Tryd.pinned (OpenSpec.upto typingElementsSpec)

/-- 'pipelinelaw08.TypingText', WHERE WHAT IT READS IS OF BULK AT MOST 1048576: true; the input reads as it did. -/
def typingTextUptoRow : OpenClaim := { program := "ytgcpffbaejodiaadoor", sum := "9faeaea7594febe9d863d14a0ba1f11105b1aaa429543f67246374c3e82438db", func := "pipeline/pipelinelaw08.TypingText", spec := "typingText", inPlace := ["internal/bytealg.IndexByteString", "internal/bytealg.IndexString"], unfollowed := true, recurses := true, named := ["unicode/utf8.first", "unicode/utf8.acceptRanges", "internal/bytealg.MaxLen"], loops := true, apart := false, laid := [("unicode/utf8.acceptRanges", laid_unicode_utf8_acceptRanges), ("unicode/utf8.first", laid_unicode_utf8_first)], narrowed := true }
def TypingTextUptoSaid : Prop := typingTextUptoRow.holds Tryd.pinned (OpenSpec.upto typingTextSpec)

/-- 'pipelinelaw08.TypingBack', WHERE WHAT IT READS IS OF BULK AT MOST 1048576: true; the input reads as it did. -/
def typingBackUptoRow : OpenClaim := { program := "ytgcpffbaejodiaadoor", sum := "9faeaea7594febe9d863d14a0ba1f11105b1aaa429543f67246374c3e82438db", func := "pipeline/pipelinelaw08.TypingBack", spec := "typingBack", inPlace := ["internal/bytealg.IndexByteString", "internal/bytealg.IndexString"], unfollowed := true, recurses := true, named := ["unicode/utf8.first", "unicode/utf8.acceptRanges", "internal/bytealg.MaxLen"], loops := true, apart := false, laid := [("unicode/utf8.acceptRanges", laid_unicode_utf8_acceptRanges), ("unicode/utf8.first", laid_unicode_utf8_first)], narrowed := true }
def TypingBackUptoSaid : Prop := typingBackUptoRow.holds Tryd.pinned (OpenSpec.upto typingBackSpec)

/-- 'pipelinelaw08.TypingNests', WHERE WHAT IT READS IS OF BULK AT MOST 1048576: true; the input reads as it did. -/
def typingNestsUptoRow : OpenClaim := { program := "ytgcpffbaejodiaadoor", sum := "9faeaea7594febe9d863d14a0ba1f11105b1aaa429543f67246374c3e82438db", func := "pipeline/pipelinelaw08.TypingNests", spec := "typingNests", inPlace := ["internal/bytealg.IndexByteString", "internal/bytealg.IndexString"], unfollowed := true, recurses := true, named := ["unicode/utf8.first", "unicode/utf8.acceptRanges", "internal/bytealg.MaxLen"], apart := false, laid := [("unicode/utf8.acceptRanges", laid_unicode_utf8_acceptRanges), ("unicode/utf8.first", laid_unicode_utf8_first)], narrowed := true }
def TypingNestsUptoSaid : Prop := typingNestsUptoRow.holds Tryd.pinned (OpenSpec.upto typingNestsSpec)

end Rows
end Go.Proofs.YtgcpffbaejodiaaDoor
