/-
  NARROWER THAN 'FOR EVERY INPUT', by the rows' own cells (each row's printed sentence says how): CacheValid: laid · CacheNew: laid · CacheSaves: laid · CacheFull: laid · CacheRestores: laid · CacheReads: laid · CacheIsolates: laid.
  DERIVED. THE GIVEN ROWS OF THIS SEAT. 7 by the template 'for every input the law returns true; each argument reads behind the call as it read before'; 0 by the template 'total and deterministic' (their statements: YtpdlapdnjmoaoaaDoorTotals.lean).
  GIVEN WITH THE SEED: the statements are not yours to turn. If you find one false, say at which input.
  Laid BY PROGRAM, IN A SANDBOX (cutbox-rows.mjs): the forced cells as the released guide's own fill.sh prints them over the translation d8f7fcae70a0c622… (all of the seat's roots in one cut). By AI agents, Wed Nov 11 2026. No macro, syntax, notation, axiom, sorry.
-/
import Derived.Test.YtpdlapdnjmoaoaaDoorChecked
import GoSem.PinnedTables
import GoSem.Claim
import GoSem.ClaimJoined
import GoSem.ClaimMapViews
import Derived.JoinedTies
import Derived.KernelRfl
namespace Go.Proofs.YtpdlapdnjmoaoaaDoor
/- THE CELL 'sum', in the pinned program and in every row, IS THE sha256 OF THE DUMP (.gsa) THAT YtpdlapdnjmoaoaaDoorProg.lean LOADS. Nothing in Lean hashes anything: it is a label: what it is worth is what the hold of that sum in a sandbox is worth. -/
noncomputable def Tryd.pinned : Pinned := { name := "ytpdlapdnjmoaoaadoor", sum := "d8f7fcae70a0c622646031b6577d375a0dbc060f73a5c8ccff92c7b3c086efb4", checked := Tryd.checked }
namespace Rows
def none {H : Type} : Left H := { results := [], args := [] }

/- WHAT THE LISTED PACKAGE-LEVEL VARIABLES READ AS WHEN THE CALL BEGINS. Each datum BY PROGRAM (the guide's laid-datum.mjs) off the statement by which the dump's own 'gosem.cut.vars' lays the variable. In a bare row this is a premise. The card (YtpdlapdnjmoaoaaDoorCards.lean) ties it to the program's text. -/
def laid_unicode_utf8_acceptRanges {H : Type} : DataW H := .agg [.agg [.lit (.int .u8 128), .lit (.int .u8 191)], .agg [.lit (.int .u8 160), .lit (.int .u8 191)], .agg [.lit (.int .u8 128), .lit (.int .u8 159)], .agg [.lit (.int .u8 144), .lit (.int .u8 191)], .agg [.lit (.int .u8 128), .lit (.int .u8 143)], .agg [.lit (.int .u8 0), .lit (.int .u8 0)], .agg [.lit (.int .u8 0), .lit (.int .u8 0)], .agg [.lit (.int .u8 0), .lit (.int .u8 0)], .agg [.lit (.int .u8 0), .lit (.int .u8 0)], .agg [.lit (.int .u8 0), .lit (.int .u8 0)], .agg [.lit (.int .u8 0), .lit (.int .u8 0)], .agg [.lit (.int .u8 0), .lit (.int .u8 0)], .agg [.lit (.int .u8 0), .lit (.int .u8 0)], .agg [.lit (.int .u8 0), .lit (.int .u8 0)], .agg [.lit (.int .u8 0), .lit (.int .u8 0)], .agg [.lit (.int .u8 0), .lit (.int .u8 0)]]
/-- One of Go's own tables, pinned by name: the form's constant. -/
def laid_unicode_utf8_first : DataW Unit := Go.Pinned.utf8First

/-- 'pipelinelaw33.CacheValid': WHATEVER THE INPUT: true; the input reads as it did. -/
def cacheValidSpec : ChangeSpec := { name := "cacheValid", fn := fun _ => fun
  | [d] => { results := [.lit (.bool true)], args := [d] }
  | _ => none }
def cacheValidRow : OpenClaim := { program := "ytpdlapdnjmoaoaadoor", sum := "d8f7fcae70a0c622646031b6577d375a0dbc060f73a5c8ccff92c7b3c086efb4", func := "pipeline/pipelinelaw33.CacheValid", spec := "cacheValid", inPlace := ["internal/bytealg.CountString", "internal/bytealg.IndexByteString", "internal/bytealg.IndexString"], unfollowed := true, recurses := true, named := ["unicode/utf8.first", "unicode/utf8.acceptRanges", "internal/bytealg.MaxLen"], plainKeys := false, apart := false, laid := [("unicode/utf8.acceptRanges", laid_unicode_utf8_acceptRanges), ("unicode/utf8.first", laid_unicode_utf8_first)] }
def CacheValidSaid : Prop := cacheValidRow.holds Tryd.pinned (OpenSpec.ofChange cacheValidSpec)

/-- ITS FALSE NEIGHBOUR: 'it returns false'. Refute it at one input. -/
def cacheValidWrong : ChangeSpec := { name := "cacheValid", fn := fun _ => fun
  | [d] => { results := [.lit (.bool false)], args := [d] }
  | _ => none }
def CacheValidWrongFalsely : Prop := cacheValidRow.holds Tryd.pinned (OpenSpec.ofChange cacheValidWrong)

/-- 'pipelinelaw33.CacheNew': WHATEVER THE INPUT: true; the input reads as it did. -/
def cacheNewSpec : ChangeSpec := { name := "cacheNew", fn := fun _ => fun
  | [d] => { results := [.lit (.bool true)], args := [d] }
  | _ => none }
def cacheNewRow : OpenClaim := { program := "ytpdlapdnjmoaoaadoor", sum := "d8f7fcae70a0c622646031b6577d375a0dbc060f73a5c8ccff92c7b3c086efb4", func := "pipeline/pipelinelaw33.CacheNew", spec := "cacheNew", inPlace := ["internal/bytealg.CountString", "internal/bytealg.IndexByteString", "internal/bytealg.IndexString"], unfollowed := true, recurses := true, named := ["unicode/utf8.first", "unicode/utf8.acceptRanges", "internal/bytealg.MaxLen"], plainKeys := false, apart := false, laid := [("unicode/utf8.acceptRanges", laid_unicode_utf8_acceptRanges), ("unicode/utf8.first", laid_unicode_utf8_first)] }
def CacheNewSaid : Prop := cacheNewRow.holds Tryd.pinned (OpenSpec.ofChange cacheNewSpec)

/-- ITS FALSE NEIGHBOUR: 'it returns false'. Refute it at one input. -/
def cacheNewWrong : ChangeSpec := { name := "cacheNew", fn := fun _ => fun
  | [d] => { results := [.lit (.bool false)], args := [d] }
  | _ => none }
def CacheNewWrongFalsely : Prop := cacheNewRow.holds Tryd.pinned (OpenSpec.ofChange cacheNewWrong)

/-- 'pipelinelaw33.CacheSaves': WHATEVER THE INPUT: true; the input reads as it did. -/
def cacheSavesSpec : ChangeSpec := { name := "cacheSaves", fn := fun _ => fun
  | [d1, d2, d3] => { results := [.lit (.bool true)], args := [d1, d2, d3] }
  | _ => none }
def cacheSavesRow : OpenClaim := { program := "ytpdlapdnjmoaoaadoor", sum := "d8f7fcae70a0c622646031b6577d375a0dbc060f73a5c8ccff92c7b3c086efb4", func := "pipeline/pipelinelaw33.CacheSaves", spec := "cacheSaves", inPlace := ["internal/bytealg.CountString", "internal/bytealg.IndexByteString", "internal/bytealg.IndexString"], unfollowed := true, recurses := true, named := ["unicode/utf8.first", "unicode/utf8.acceptRanges", "internal/bytealg.MaxLen"], plainKeys := false, apart := false, laid := [("unicode/utf8.acceptRanges", laid_unicode_utf8_acceptRanges), ("unicode/utf8.first", laid_unicode_utf8_first)] }
def CacheSavesSaid : Prop := cacheSavesRow.holds Tryd.pinned (OpenSpec.ofChange cacheSavesSpec)

/-- ITS FALSE NEIGHBOUR: 'it returns false'. Refute it at one input. -/
def cacheSavesWrong : ChangeSpec := { name := "cacheSaves", fn := fun _ => fun
  | [d1, d2, d3] => { results := [.lit (.bool false)], args := [d1, d2, d3] }
  | _ => none }
def CacheSavesWrongFalsely : Prop := cacheSavesRow.holds Tryd.pinned (OpenSpec.ofChange cacheSavesWrong)

/-- 'pipelinelaw33.CacheFull': WHATEVER THE INPUT: true; the input reads as it did. -/
def cacheFullSpec : ChangeSpec := { name := "cacheFull", fn := fun _ => fun
  | [d] => { results := [.lit (.bool true)], args := [d] }
  | _ => none }
def cacheFullRow : OpenClaim := { program := "ytpdlapdnjmoaoaadoor", sum := "d8f7fcae70a0c622646031b6577d375a0dbc060f73a5c8ccff92c7b3c086efb4", func := "pipeline/pipelinelaw33.CacheFull", spec := "cacheFull", inPlace := ["internal/bytealg.CountString", "internal/bytealg.IndexByteString", "internal/bytealg.IndexString"], unfollowed := true, recurses := true, named := ["unicode/utf8.first", "unicode/utf8.acceptRanges", "internal/bytealg.MaxLen"], plainKeys := false, apart := false, laid := [("unicode/utf8.acceptRanges", laid_unicode_utf8_acceptRanges), ("unicode/utf8.first", laid_unicode_utf8_first)] }
def CacheFullSaid : Prop := cacheFullRow.holds Tryd.pinned (OpenSpec.ofChange cacheFullSpec)

/-- ITS FALSE NEIGHBOUR: 'it returns false'. Refute it at one input. -/
def cacheFullWrong : ChangeSpec := { name := "cacheFull", fn := fun _ => fun
  | [d] => { results := [.lit (.bool false)], args := [d] }
  | _ => none }
def CacheFullWrongFalsely : Prop := cacheFullRow.holds Tryd.pinned (OpenSpec.ofChange cacheFullWrong)

/-- 'pipelinelaw33.CacheRestores': WHATEVER THE INPUT: true; the input reads as it did. -/
def cacheRestoresSpec : ChangeSpec := { name := "cacheRestores", fn := fun _ => fun
  | [d1, d2, d3] => { results := [.lit (.bool true)], args := [d1, d2, d3] }
  | _ => none }
def cacheRestoresRow : OpenClaim := { program := "ytpdlapdnjmoaoaadoor", sum := "d8f7fcae70a0c622646031b6577d375a0dbc060f73a5c8ccff92c7b3c086efb4", func := "pipeline/pipelinelaw33.CacheRestores", spec := "cacheRestores", inPlace := ["internal/bytealg.CountString", "internal/bytealg.IndexByteString", "internal/bytealg.IndexString"], unfollowed := true, recurses := true, named := ["unicode/utf8.first", "unicode/utf8.acceptRanges", "internal/bytealg.MaxLen"], plainKeys := false, apart := false, laid := [("unicode/utf8.acceptRanges", laid_unicode_utf8_acceptRanges), ("unicode/utf8.first", laid_unicode_utf8_first)] }
def CacheRestoresSaid : Prop := cacheRestoresRow.holds Tryd.pinned (OpenSpec.ofChange cacheRestoresSpec)

/-- ITS FALSE NEIGHBOUR: 'it returns false'. Refute it at one input. -/
def cacheRestoresWrong : ChangeSpec := { name := "cacheRestores", fn := fun _ => fun
  | [d1, d2, d3] => { results := [.lit (.bool false)], args := [d1, d2, d3] }
  | _ => none }
def CacheRestoresWrongFalsely : Prop := cacheRestoresRow.holds Tryd.pinned (OpenSpec.ofChange cacheRestoresWrong)

/-- 'pipelinelaw33.CacheReads': WHATEVER THE INPUT: true; the input reads as it did. -/
def cacheReadsSpec : ChangeSpec := { name := "cacheReads", fn := fun _ => fun
  | [d1, d2, d3] => { results := [.lit (.bool true)], args := [d1, d2, d3] }
  | _ => none }
def cacheReadsRow : OpenClaim := { program := "ytpdlapdnjmoaoaadoor", sum := "d8f7fcae70a0c622646031b6577d375a0dbc060f73a5c8ccff92c7b3c086efb4", func := "pipeline/pipelinelaw33.CacheReads", spec := "cacheReads", inPlace := ["internal/bytealg.CountString", "internal/bytealg.IndexByteString", "internal/bytealg.IndexString"], unfollowed := true, recurses := true, named := ["unicode/utf8.first", "unicode/utf8.acceptRanges", "internal/bytealg.MaxLen"], plainKeys := false, apart := false, laid := [("unicode/utf8.acceptRanges", laid_unicode_utf8_acceptRanges), ("unicode/utf8.first", laid_unicode_utf8_first)] }
def CacheReadsSaid : Prop := cacheReadsRow.holds Tryd.pinned (OpenSpec.ofChange cacheReadsSpec)

/-- ITS FALSE NEIGHBOUR: 'it returns false'. Refute it at one input. -/
def cacheReadsWrong : ChangeSpec := { name := "cacheReads", fn := fun _ => fun
  | [d1, d2, d3] => { results := [.lit (.bool false)], args := [d1, d2, d3] }
  | _ => none }
def CacheReadsWrongFalsely : Prop := cacheReadsRow.holds Tryd.pinned (OpenSpec.ofChange cacheReadsWrong)

/-- 'pipelinelaw33.CacheIsolates': WHATEVER THE INPUT: true; the input reads as it did. -/
def cacheIsolatesSpec : ChangeSpec := { name := "cacheIsolates", fn := fun _ => fun
  | [d1, d2, d3] => { results := [.lit (.bool true)], args := [d1, d2, d3] }
  | _ => none }
def cacheIsolatesRow : OpenClaim := { program := "ytpdlapdnjmoaoaadoor", sum := "d8f7fcae70a0c622646031b6577d375a0dbc060f73a5c8ccff92c7b3c086efb4", func := "pipeline/pipelinelaw33.CacheIsolates", spec := "cacheIsolates", inPlace := ["internal/bytealg.CountString", "internal/bytealg.IndexByteString", "internal/bytealg.IndexString"], unfollowed := true, recurses := true, named := ["unicode/utf8.first", "unicode/utf8.acceptRanges", "internal/bytealg.MaxLen"], plainKeys := false, apart := false, laid := [("unicode/utf8.acceptRanges", laid_unicode_utf8_acceptRanges), ("unicode/utf8.first", laid_unicode_utf8_first)] }
def CacheIsolatesSaid : Prop := cacheIsolatesRow.holds Tryd.pinned (OpenSpec.ofChange cacheIsolatesSpec)

/-- ITS FALSE NEIGHBOUR: 'it returns false'. Refute it at one input. -/
def cacheIsolatesWrong : ChangeSpec := { name := "cacheIsolates", fn := fun _ => fun
  | [d1, d2, d3] => { results := [.lit (.bool false)], args := [d1, d2, d3] }
  | _ => none }
def CacheIsolatesWrongFalsely : Prop := cacheIsolatesRow.holds Tryd.pinned (OpenSpec.ofChange cacheIsolatesWrong)

/- THE SECOND FORM. 'bulk': how many values and letters a reading holds, each counted each time it is reached (what is shared counts as often as it is met; a slice's spare places count too). A statement '..UptoSaid' is the law's where the arguments, and the package variables that the reading takes, are together of bulk at most 1048576: NARROWER than '..Said'. Prove '..Said' where nothing that the law and all that it calls make is longer than what came in: it says more and counts as full. Else prove '..UptoSaid'. A law counts once. -/
mutual
def uptoBulk {H : Type} : DataW H → Nat
  | .lit (.string bytes) => bytes.length + 1
  | .lit _ => 1
  | .nil => 1
  | .ptr d => uptoBulk d + 1
  | .slice elems spare => uptoBulkAll elems + uptoBulkAll spare + 1
  | .agg parts => uptoBulkAll parts + 1
  | .iface _ d => uptoBulk d + 1
  | .map entries => uptoBulkEntries entries + 1
  | .held _ => 1
def uptoBulkAll {H : Type} : List (DataW H) → Nat
  | [] => 0
  | d :: r => uptoBulk d + uptoBulkAll r
def uptoBulkEntries {H : Type} : List (Lit × DataW H) → Nat
  | [] => 0
  | x :: r => uptoBulkEntry x + uptoBulkEntries r
def uptoBulkEntry {H : Type} : Lit × DataW H → Nat
  | (.string bytes, d) => bytes.length + uptoBulk d + 1
  | (_, d) => uptoBulk d + 1
 end
def uptoSmall : (H : Type) → List (DataW H) → Bool := fun _ ds => decide (uptoBulkAll ds ≤ 1048576)
def OpenSpec.upto (s : _root_.Go.ChangeSpec) : _root_.Go.OpenSpec := { _root_.Go.OpenSpec.ofChange s with cond := some uptoSmall }

/-- 'pipelinelaw33.CacheValid', WHERE WHAT IT READS IS OF BULK AT MOST 1048576: true; the input reads as it did. -/
def cacheValidUptoRow : OpenClaim := { program := "ytpdlapdnjmoaoaadoor", sum := "d8f7fcae70a0c622646031b6577d375a0dbc060f73a5c8ccff92c7b3c086efb4", func := "pipeline/pipelinelaw33.CacheValid", spec := "cacheValid", inPlace := ["internal/bytealg.CountString", "internal/bytealg.IndexByteString", "internal/bytealg.IndexString"], unfollowed := true, recurses := true, named := ["unicode/utf8.first", "unicode/utf8.acceptRanges", "internal/bytealg.MaxLen"], plainKeys := false, apart := false, laid := [("unicode/utf8.acceptRanges", laid_unicode_utf8_acceptRanges), ("unicode/utf8.first", laid_unicode_utf8_first)], narrowed := true }
def CacheValidUptoSaid : Prop := cacheValidUptoRow.holds Tryd.pinned (OpenSpec.upto cacheValidSpec)

/-- 'pipelinelaw33.CacheNew', WHERE WHAT IT READS IS OF BULK AT MOST 1048576: true; the input reads as it did. -/
def cacheNewUptoRow : OpenClaim := { program := "ytpdlapdnjmoaoaadoor", sum := "d8f7fcae70a0c622646031b6577d375a0dbc060f73a5c8ccff92c7b3c086efb4", func := "pipeline/pipelinelaw33.CacheNew", spec := "cacheNew", inPlace := ["internal/bytealg.CountString", "internal/bytealg.IndexByteString", "internal/bytealg.IndexString"], unfollowed := true, recurses := true, named := ["unicode/utf8.first", "unicode/utf8.acceptRanges", "internal/bytealg.MaxLen"], plainKeys := false, apart := false, laid := [("unicode/utf8.acceptRanges", laid_unicode_utf8_acceptRanges), ("unicode/utf8.first", laid_unicode_utf8_first)], narrowed := true }
def CacheNewUptoSaid : Prop := cacheNewUptoRow.holds Tryd.pinned (OpenSpec.upto cacheNewSpec)

/-- 'pipelinelaw33.CacheSaves', WHERE WHAT IT READS IS OF BULK AT MOST 1048576: true; the input reads as it did. -/
def cacheSavesUptoRow : OpenClaim := { program := "ytpdlapdnjmoaoaadoor", sum := "d8f7fcae70a0c622646031b6577d375a0dbc060f73a5c8ccff92c7b3c086efb4", func := "pipeline/pipelinelaw33.CacheSaves", spec := "cacheSaves", inPlace := ["internal/bytealg.CountString", "internal/bytealg.IndexByteString", "internal/bytealg.IndexString"], unfollowed := true, recurses := true, named := ["unicode/utf8.first", "unicode/utf8.acceptRanges", "internal/bytealg.MaxLen"], plainKeys := false, apart := false, laid := [("unicode/utf8.acceptRanges", laid_unicode_utf8_acceptRanges), ("unicode/utf8.first", laid_unicode_utf8_first)], narrowed := true }
def CacheSavesUptoSaid : Prop := cacheSavesUptoRow.holds Tryd.pinned (OpenSpec.upto cacheSavesSpec)

/-- 'pipelinelaw33.CacheFull', WHERE WHAT IT READS IS OF BULK AT MOST 1048576: true; the input reads as it did. -/
def cacheFullUptoRow : OpenClaim := { program := "ytpdlapdnjmoaoaadoor", sum := "d8f7fcae70a0c622646031b6577d375a0dbc060f73a5c8ccff92c7b3c086efb4", func := "pipeline/pipelinelaw33.CacheFull", spec := "cacheFull", inPlace := ["internal/bytealg.CountString", "internal/bytealg.IndexByteString", "internal/bytealg.IndexString"], unfollowed := true, recurses := true, named := ["unicode/utf8.first", "unicode/utf8.acceptRanges", "internal/bytealg.MaxLen"], plainKeys := false, apart := false, laid := [("unicode/utf8.acceptRanges", laid_unicode_utf8_acceptRanges), ("unicode/utf8.first", laid_unicode_utf8_first)], narrowed := true }
def CacheFullUptoSaid : Prop := cacheFullUptoRow.holds Tryd.pinned (OpenSpec.upto cacheFullSpec)

/-- 'pipelinelaw33.CacheRestores', WHERE WHAT IT READS IS OF BULK AT MOST 1048576: true; the input reads as it did. -/
def cacheRestoresUptoRow : OpenClaim := { program := "ytpdlapdnjmoaoaadoor", sum := "d8f7fcae70a0c622646031b6577d375a0dbc060f73a5c8ccff92c7b3c086efb4", func := "pipeline/pipelinelaw33.CacheRestores", spec := "cacheRestores", inPlace := ["internal/bytealg.CountString", "internal/bytealg.IndexByteString", "internal/bytealg.IndexString"], unfollowed := true, recurses := true, named := ["unicode/utf8.first", "unicode/utf8.acceptRanges", "internal/bytealg.MaxLen"], plainKeys := false, apart := false, laid := [("unicode/utf8.acceptRanges", laid_unicode_utf8_acceptRanges), ("unicode/utf8.first", laid_unicode_utf8_first)], narrowed := true }
def CacheRestoresUptoSaid : Prop := cacheRestoresUptoRow.holds Tryd.pinned (OpenSpec.upto cacheRestoresSpec)

/-- 'pipelinelaw33.CacheReads', WHERE WHAT IT READS IS OF BULK AT MOST 1048576: true; the input reads as it did. -/
def cacheReadsUptoRow : OpenClaim := { program := "ytpdlapdnjmoaoaadoor", sum := "d8f7fcae70a0c622646031b6577d375a0dbc060f73a5c8ccff92c7b3c086efb4", func := "pipeline/pipelinelaw33.CacheReads", spec := "cacheReads", inPlace := ["internal/bytealg.CountString", "internal/bytealg.IndexByteString", "internal/bytealg.IndexString"], unfollowed := true, recurses := true, named := ["unicode/utf8.first", "unicode/utf8.acceptRanges", "internal/bytealg.MaxLen"], plainKeys := false, apart := false, laid := [("unicode/utf8.acceptRanges", laid_unicode_utf8_acceptRanges), ("unicode/utf8.first", laid_unicode_utf8_first)], narrowed := true }
def CacheReadsUptoSaid : Prop := cacheReadsUptoRow.holds Tryd.pinned (OpenSpec.upto cacheReadsSpec)

/-- 'pipelinelaw33.CacheIsolates', WHERE WHAT IT READS IS OF BULK AT MOST 1048576: true; the input reads as it did. -/
def cacheIsolatesUptoRow : OpenClaim := { program := "ytpdlapdnjmoaoaadoor", sum := "d8f7fcae70a0c622646031b6577d375a0dbc060f73a5c8ccff92c7b3c086efb4", func := "pipeline/pipelinelaw33.CacheIsolates", spec := "cacheIsolates", inPlace := ["internal/bytealg.CountString", "internal/bytealg.IndexByteString", "internal/bytealg.IndexString"], unfollowed := true, recurses := true, named := ["unicode/utf8.first", "unicode/utf8.acceptRanges", "internal/bytealg.MaxLen"], plainKeys := false, apart := false, laid := [("unicode/utf8.acceptRanges", laid_unicode_utf8_acceptRanges), ("unicode/utf8.first", laid_unicode_utf8_first)], narrowed := true }
def CacheIsolatesUptoSaid : Prop := cacheIsolatesUptoRow.holds Tryd.pinned (OpenSpec.upto cacheIsolatesSpec)

end Rows
end Go.Proofs.YtpdlapdnjmoaoaaDoor
