/-
  NARROWER THAN 'FOR EVERY INPUT', by the rows' own cells (each row's printed sentence says how): DeployValid: laid · DeployRequests: laid · DeployLocked: laid · DeployFinishes: laid · DeployLocks: laid · DeployCurrent: laid.
  DERIVED. THE GIVEN ROWS OF THIS SEAT. 6 by the template 'for every input the law returns true; each argument reads behind the call as it read before'; 0 by the template 'total and deterministic' (their statements: YtennhjkhjplmoaaDoorTotals.lean).
  GIVEN WITH THE SEED: the statements are not yours to turn. If you find one false, say at which input.
  Laid BY PROGRAM, IN A SANDBOX (cutbox-rows.mjs): the forced cells as the released guide's own fill.sh prints them over the translation a92241a0b71b04f2… (all of the seat's roots in one cut). By AI agents, Wed Nov 11 2026. No macro, syntax, notation, axiom, sorry.
-/
import Derived.Test.YtennhjkhjplmoaaDoorChecked
import GoSem.PinnedTables
import GoSem.Claim
import GoSem.ClaimJoined
import GoSem.ClaimMapViews
import Derived.JoinedTies
import Derived.KernelRfl
namespace Go.Proofs.YtennhjkhjplmoaaDoor
/- THE CELL 'sum', in the pinned program and in every row, IS THE sha256 OF THE DUMP (.gsa) THAT YtennhjkhjplmoaaDoorProg.lean LOADS. Nothing in Lean hashes anything: it is a label: what it is worth is what the hold of that sum in a sandbox is worth. -/
noncomputable def Tryd.pinned : Pinned := { name := "ytennhjkhjplmoaadoor", sum := "a92241a0b71b04f22062b1cc9e18162bb842670e2c82975bc950c08dbbb5795b", checked := Tryd.checked }
namespace Rows
def none {H : Type} : Left H := { results := [], args := [] }

/- WHAT THE LISTED PACKAGE-LEVEL VARIABLES READ AS WHEN THE CALL BEGINS. Each datum BY PROGRAM (the guide's laid-datum.mjs) off the statement by which the dump's own 'gosem.cut.vars' lays the variable. In a bare row this is a premise. The card (YtennhjkhjplmoaaDoorCards.lean) ties it to the program's text. -/
def laid_unicode_utf8_acceptRanges {H : Type} : DataW H := .agg [.agg [.lit (.int .u8 128), .lit (.int .u8 191)], .agg [.lit (.int .u8 160), .lit (.int .u8 191)], .agg [.lit (.int .u8 128), .lit (.int .u8 159)], .agg [.lit (.int .u8 144), .lit (.int .u8 191)], .agg [.lit (.int .u8 128), .lit (.int .u8 143)], .agg [.lit (.int .u8 0), .lit (.int .u8 0)], .agg [.lit (.int .u8 0), .lit (.int .u8 0)], .agg [.lit (.int .u8 0), .lit (.int .u8 0)], .agg [.lit (.int .u8 0), .lit (.int .u8 0)], .agg [.lit (.int .u8 0), .lit (.int .u8 0)], .agg [.lit (.int .u8 0), .lit (.int .u8 0)], .agg [.lit (.int .u8 0), .lit (.int .u8 0)], .agg [.lit (.int .u8 0), .lit (.int .u8 0)], .agg [.lit (.int .u8 0), .lit (.int .u8 0)], .agg [.lit (.int .u8 0), .lit (.int .u8 0)], .agg [.lit (.int .u8 0), .lit (.int .u8 0)]]
/-- One of Go's own tables, pinned by name: the form's constant. -/
def laid_unicode_utf8_first : DataW Unit := Go.Pinned.utf8First

/-- 'pipelinelaw45.DeployValid': WHATEVER THE INPUT: true; the input reads as it did. -/
def deployValidSpec : ChangeSpec := { name := "deployValid", fn := fun _ => fun
  | [d] => { results := [.lit (.bool true)], args := [d] }
  | _ => none }
def deployValidRow : OpenClaim := { program := "ytennhjkhjplmoaadoor", sum := "a92241a0b71b04f22062b1cc9e18162bb842670e2c82975bc950c08dbbb5795b", func := "pipeline/pipelinelaw45.DeployValid", spec := "deployValid", inPlace := ["internal/bytealg.IndexByteString", "internal/bytealg.IndexString", "slices.overlaps[pipeline/api.Environment]"], unfollowed := true, recurses := true, named := ["unicode/utf8.first", "unicode/utf8.acceptRanges", "internal/bytealg.MaxLen"], plainKeys := false, apart := false, laid := [("unicode/utf8.acceptRanges", laid_unicode_utf8_acceptRanges), ("unicode/utf8.first", laid_unicode_utf8_first)] }
def DeployValidSaid : Prop := deployValidRow.holds Tryd.pinned (OpenSpec.ofChange deployValidSpec)

/-- ITS FALSE NEIGHBOUR: 'it returns false'. Refute it at one input. -/
def deployValidWrong : ChangeSpec := { name := "deployValid", fn := fun _ => fun
  | [d] => { results := [.lit (.bool false)], args := [d] }
  | _ => none }
def DeployValidWrongFalsely : Prop := deployValidRow.holds Tryd.pinned (OpenSpec.ofChange deployValidWrong)

/-- 'pipelinelaw45.DeployRequests': WHATEVER THE INPUT: true; the input reads as it did. -/
def deployRequestsSpec : ChangeSpec := { name := "deployRequests", fn := fun _ => fun
  | [d1, d2, d3] => { results := [.lit (.bool true)], args := [d1, d2, d3] }
  | _ => none }
def deployRequestsRow : OpenClaim := { program := "ytennhjkhjplmoaadoor", sum := "a92241a0b71b04f22062b1cc9e18162bb842670e2c82975bc950c08dbbb5795b", func := "pipeline/pipelinelaw45.DeployRequests", spec := "deployRequests", inPlace := ["internal/bytealg.IndexByteString", "internal/bytealg.IndexString", "slices.overlaps[pipeline/api.Environment]"], unfollowed := true, recurses := true, named := ["unicode/utf8.first", "unicode/utf8.acceptRanges", "internal/bytealg.MaxLen"], plainKeys := false, apart := false, laid := [("unicode/utf8.acceptRanges", laid_unicode_utf8_acceptRanges), ("unicode/utf8.first", laid_unicode_utf8_first)] }
def DeployRequestsSaid : Prop := deployRequestsRow.holds Tryd.pinned (OpenSpec.ofChange deployRequestsSpec)

/-- ITS FALSE NEIGHBOUR: 'it returns false'. Refute it at one input. -/
def deployRequestsWrong : ChangeSpec := { name := "deployRequests", fn := fun _ => fun
  | [d1, d2, d3] => { results := [.lit (.bool false)], args := [d1, d2, d3] }
  | _ => none }
def DeployRequestsWrongFalsely : Prop := deployRequestsRow.holds Tryd.pinned (OpenSpec.ofChange deployRequestsWrong)

/-- 'pipelinelaw45.DeployLocked': WHATEVER THE INPUT: true; the input reads as it did. -/
def deployLockedSpec : ChangeSpec := { name := "deployLocked", fn := fun _ => fun
  | [d1, d2, d3] => { results := [.lit (.bool true)], args := [d1, d2, d3] }
  | _ => none }
def deployLockedRow : OpenClaim := { program := "ytennhjkhjplmoaadoor", sum := "a92241a0b71b04f22062b1cc9e18162bb842670e2c82975bc950c08dbbb5795b", func := "pipeline/pipelinelaw45.DeployLocked", spec := "deployLocked", inPlace := ["internal/bytealg.IndexByteString", "internal/bytealg.IndexString", "slices.overlaps[pipeline/api.Environment]"], unfollowed := true, recurses := true, named := ["unicode/utf8.first", "unicode/utf8.acceptRanges", "internal/bytealg.MaxLen"], plainKeys := false, apart := false, laid := [("unicode/utf8.acceptRanges", laid_unicode_utf8_acceptRanges), ("unicode/utf8.first", laid_unicode_utf8_first)] }
def DeployLockedSaid : Prop := deployLockedRow.holds Tryd.pinned (OpenSpec.ofChange deployLockedSpec)

/-- ITS FALSE NEIGHBOUR: 'it returns false'. Refute it at one input. -/
def deployLockedWrong : ChangeSpec := { name := "deployLocked", fn := fun _ => fun
  | [d1, d2, d3] => { results := [.lit (.bool false)], args := [d1, d2, d3] }
  | _ => none }
def DeployLockedWrongFalsely : Prop := deployLockedRow.holds Tryd.pinned (OpenSpec.ofChange deployLockedWrong)

/-- 'pipelinelaw45.DeployFinishes': WHATEVER THE INPUT: true; the input reads as it did. -/
def deployFinishesSpec : ChangeSpec := { name := "deployFinishes", fn := fun _ => fun
  | [d1, d2] => { results := [.lit (.bool true)], args := [d1, d2] }
  | _ => none }
def deployFinishesRow : OpenClaim := { program := "ytennhjkhjplmoaadoor", sum := "a92241a0b71b04f22062b1cc9e18162bb842670e2c82975bc950c08dbbb5795b", func := "pipeline/pipelinelaw45.DeployFinishes", spec := "deployFinishes", inPlace := ["internal/bytealg.IndexByteString", "internal/bytealg.IndexString", "slices.overlaps[pipeline/api.Environment]"], unfollowed := true, recurses := true, named := ["unicode/utf8.first", "unicode/utf8.acceptRanges", "internal/bytealg.MaxLen"], plainKeys := false, apart := false, laid := [("unicode/utf8.acceptRanges", laid_unicode_utf8_acceptRanges), ("unicode/utf8.first", laid_unicode_utf8_first)] }
def DeployFinishesSaid : Prop := deployFinishesRow.holds Tryd.pinned (OpenSpec.ofChange deployFinishesSpec)

/-- ITS FALSE NEIGHBOUR: 'it returns false'. Refute it at one input. -/
def deployFinishesWrong : ChangeSpec := { name := "deployFinishes", fn := fun _ => fun
  | [d1, d2] => { results := [.lit (.bool false)], args := [d1, d2] }
  | _ => none }
def DeployFinishesWrongFalsely : Prop := deployFinishesRow.holds Tryd.pinned (OpenSpec.ofChange deployFinishesWrong)

/-- 'pipelinelaw45.DeployLocks': WHATEVER THE INPUT: true; the input reads as it did. -/
def deployLocksSpec : ChangeSpec := { name := "deployLocks", fn := fun _ => fun
  | [d] => { results := [.lit (.bool true)], args := [d] }
  | _ => none }
def deployLocksRow : OpenClaim := { program := "ytennhjkhjplmoaadoor", sum := "a92241a0b71b04f22062b1cc9e18162bb842670e2c82975bc950c08dbbb5795b", func := "pipeline/pipelinelaw45.DeployLocks", spec := "deployLocks", inPlace := ["internal/bytealg.IndexByteString", "internal/bytealg.IndexString", "slices.overlaps[pipeline/api.Environment]"], unfollowed := true, recurses := true, named := ["unicode/utf8.first", "unicode/utf8.acceptRanges", "internal/bytealg.MaxLen"], plainKeys := false, apart := false, laid := [("unicode/utf8.acceptRanges", laid_unicode_utf8_acceptRanges), ("unicode/utf8.first", laid_unicode_utf8_first)] }
def DeployLocksSaid : Prop := deployLocksRow.holds Tryd.pinned (OpenSpec.ofChange deployLocksSpec)

/-- ITS FALSE NEIGHBOUR: 'it returns false'. Refute it at one input. -/
def deployLocksWrong : ChangeSpec := { name := "deployLocks", fn := fun _ => fun
  | [d] => { results := [.lit (.bool false)], args := [d] }
  | _ => none }
def DeployLocksWrongFalsely : Prop := deployLocksRow.holds Tryd.pinned (OpenSpec.ofChange deployLocksWrong)

/-- 'pipelinelaw45.DeployCurrent': WHATEVER THE INPUT: true; the input reads as it did. -/
def deployCurrentSpec : ChangeSpec := { name := "deployCurrent", fn := fun _ => fun
  | [d1, d2] => { results := [.lit (.bool true)], args := [d1, d2] }
  | _ => none }
def deployCurrentRow : OpenClaim := { program := "ytennhjkhjplmoaadoor", sum := "a92241a0b71b04f22062b1cc9e18162bb842670e2c82975bc950c08dbbb5795b", func := "pipeline/pipelinelaw45.DeployCurrent", spec := "deployCurrent", inPlace := ["internal/bytealg.IndexByteString", "internal/bytealg.IndexString", "slices.overlaps[pipeline/api.Environment]"], unfollowed := true, recurses := true, named := ["unicode/utf8.first", "unicode/utf8.acceptRanges", "internal/bytealg.MaxLen"], plainKeys := false, apart := false, laid := [("unicode/utf8.acceptRanges", laid_unicode_utf8_acceptRanges), ("unicode/utf8.first", laid_unicode_utf8_first)] }
def DeployCurrentSaid : Prop := deployCurrentRow.holds Tryd.pinned (OpenSpec.ofChange deployCurrentSpec)

/-- ITS FALSE NEIGHBOUR: 'it returns false'. Refute it at one input. -/
def deployCurrentWrong : ChangeSpec := { name := "deployCurrent", fn := fun _ => fun
  | [d1, d2] => { results := [.lit (.bool false)], args := [d1, d2] }
  | _ => none }
def DeployCurrentWrongFalsely : Prop := deployCurrentRow.holds Tryd.pinned (OpenSpec.ofChange deployCurrentWrong)

/- THE SECOND FORM. 'bulk': how many values and letters a reading holds, each counted each time it is reached (what is shared counts as often as it is met; a slice's spare places count too). A statement '..UptoSaid' is the law's where the arguments, and the package variables that the reading takes, are together of bulk at most 1048576: NARROWER than '..Said'. Prove '..Said' where nothing that the law and all that it calls make is longer than what came in: it says more and counts as full. Else prove '..UptoSaid'. A law counts once. -/
mutual
def uptoBulk {H : Type} : DataW H → Nat
  | .lit (.string bytes) => bytes.length + 1
  | .lit _ => 1
  | .nil => 1
  | .ptr d => uptoBulk d + 1
  | .slice elems spare => uptoBulkAll elems + uptoBulkAll spare + 1
  | .agg parts => uptoBulkAll parts + 1
  | .iface _ d => uptoBulk d + 1
  | .map entries => uptoBulkEntries entries + 1
  | .held _ => 1
def uptoBulkAll {H : Type} : List (DataW H) → Nat
  | [] => 0
  | d :: r => uptoBulk d + uptoBulkAll r
def uptoBulkEntries {H : Type} : List (Lit × DataW H) → Nat
  | [] => 0
  | x :: r => uptoBulkEntry x + uptoBulkEntries r
def uptoBulkEntry {H : Type} : Lit × DataW H → Nat
  | (.string bytes, d) => bytes.length + uptoBulk d + 1
  | (_, d) => uptoBulk d + 1
 end
def uptoSmall : (H : Type) → List (DataW H) → Bool := fun _ ds => decide (uptoBulkAll ds ≤ 1048576)
def OpenSpec.upto (s : _root_.Go.ChangeSpec) : _root_.Go.OpenSpec := { _root_.Go.OpenSpec.ofChange s with cond := some uptoSmall }

/-- 'pipelinelaw45.DeployValid', WHERE WHAT IT READS IS OF BULK AT MOST 1048576: true; the input reads as it did. -/
def deployValidUptoRow : OpenClaim := { program := "ytennhjkhjplmoaadoor", sum := "a92241a0b71b04f22062b1cc9e18162bb842670e2c82975bc950c08dbbb5795b", func := "pipeline/pipelinelaw45.DeployValid", spec := "deployValid", inPlace := ["internal/bytealg.IndexByteString", "internal/bytealg.IndexString", "slices.overlaps[pipeline/api.Environment]"], unfollowed := true, recurses := true, named := ["unicode/utf8.first", "unicode/utf8.acceptRanges", "internal/bytealg.MaxLen"], plainKeys := false, apart := false, laid := [("unicode/utf8.acceptRanges", laid_unicode_utf8_acceptRanges), ("unicode/utf8.first", laid_unicode_utf8_first)], narrowed := true }
def DeployValidUptoSaid : Prop := deployValidUptoRow.holds Tryd.pinned (OpenSpec.upto deployValidSpec)

/-- 'pipelinelaw45.DeployRequests', WHERE WHAT IT READS IS OF BULK AT MOST 1048576: true; the input reads as it did. -/
def deployRequestsUptoRow : OpenClaim := { program := "ytennhjkhjplmoaadoor", sum := "a92241a0b71b04f22062b1cc9e18162bb842670e2c82975bc950c08dbbb5795b", func := "pipeline/pipelinelaw45.DeployRequests", spec := "deployRequests", inPlace := ["internal/bytealg.IndexByteString", "internal/bytealg.IndexString", "slices.overlaps[pipeline/api.Environment]"], unfollowed := true, recurses := true, named := ["unicode/utf8.first", "unicode/utf8.acceptRanges", "internal/bytealg.MaxLen"], plainKeys := false, apart := false, laid := [("unicode/utf8.acceptRanges", laid_unicode_utf8_acceptRanges), ("unicode/utf8.first", laid_unicode_utf8_first)], narrowed := true }
def DeployRequestsUptoSaid : Prop := deployRequestsUptoRow.holds Tryd.pinned (OpenSpec.upto deployRequestsSpec)

/-- 'pipelinelaw45.DeployLocked', WHERE WHAT IT READS IS OF BULK AT MOST 1048576: true; the input reads as it did. -/
def deployLockedUptoRow : OpenClaim := { program := "ytennhjkhjplmoaadoor", sum := "a92241a0b71b04f22062b1cc9e18162bb842670e2c82975bc950c08dbbb5795b", func := "pipeline/pipelinelaw45.DeployLocked", spec := "deployLocked", inPlace := ["internal/bytealg.IndexByteString", "internal/bytealg.IndexString", "slices.overlaps[pipeline/api.Environment]"], unfollowed := true, recurses := true, named := ["unicode/utf8.first", "unicode/utf8.acceptRanges", "internal/bytealg.MaxLen"], plainKeys := false, apart := false, laid := [("unicode/utf8.acceptRanges", laid_unicode_utf8_acceptRanges), ("unicode/utf8.first", laid_unicode_utf8_first)], narrowed := true }
def DeployLockedUptoSaid : Prop := deployLockedUptoRow.holds Tryd.pinned (OpenSpec.upto deployLockedSpec)

/-- 'pipelinelaw45.DeployFinishes', WHERE WHAT IT READS IS OF BULK AT MOST 1048576: true; the input reads as it did. -/
def deployFinishesUptoRow : OpenClaim := { program := "ytennhjkhjplmoaadoor", sum := "a92241a0b71b04f22062b1cc9e18162bb842670e2c82975bc950c08dbbb5795b", func := "pipeline/pipelinelaw45.DeployFinishes", spec := "deployFinishes", inPlace := ["internal/bytealg.IndexByteString", "internal/bytealg.IndexString", "slices.overlaps[pipeline/api.Environment]"], unfollowed := true, recurses := true, named := ["unicode/utf8.first", "unicode/utf8.acceptRanges", "internal/bytealg.MaxLen"], plainKeys := false, apart := false, laid := [("unicode/utf8.acceptRanges", laid_unicode_utf8_acceptRanges), ("unicode/utf8.first", laid_unicode_utf8_first)], narrowed := true }
def DeployFinishesUptoSaid : Prop := deployFinishesUptoRow.holds Tryd.pinned (OpenSpec.upto deployFinishesSpec)

/-- 'pipelinelaw45.DeployLocks', WHERE WHAT IT READS IS OF BULK AT MOST 1048576: true; the input reads as it did. -/
def deployLocksUptoRow : OpenClaim := { program := "ytennhjkhjplmoaadoor", sum := "a92241a0b71b04f22062b1cc9e18162bb842670e2c82975bc950c08dbbb5795b", func := "pipeline/pipelinelaw45.DeployLocks", spec := "deployLocks", inPlace := ["internal/bytealg.IndexByteString", "internal/bytealg.IndexString", "slices.overlaps[pipeline/api.Environment]"], unfollowed := true, recurses := true, named := ["unicode/utf8.first", "unicode/utf8.acceptRanges", "internal/bytealg.MaxLen"], plainKeys := false, apart := false, laid := [("unicode/utf8.acceptRanges", laid_unicode_utf8_acceptRanges), ("unicode/utf8.first", laid_unicode_utf8_first)], narrowed := true }
def DeployLocksUptoSaid : Prop := deployLocksUptoRow.holds Tryd.pinned (OpenSpec.upto deployLocksSpec)

/-- 'pipelinelaw45.DeployCurrent', WHERE WHAT IT READS IS OF BULK AT MOST 1048576: true; the input reads as it did. -/
def deployCurrentUptoRow : OpenClaim := { program := "ytennhjkhjplmoaadoor", sum := "a92241a0b71b04f22062b1cc9e18162bb842670e2c82975bc950c08dbbb5795b", func := "pipeline/pipelinelaw45.DeployCurrent", spec := "deployCurrent", inPlace := ["internal/bytealg.IndexByteString", "internal/bytealg.IndexString", "slices.overlaps[pipeline/api.Environment]"], unfollowed := true, recurses := true, named := ["unicode/utf8.first", "unicode/utf8.acceptRanges", "internal/bytealg.MaxLen"], plainKeys := false, apart := false, laid := [("unicode/utf8.acceptRanges", laid_unicode_utf8_acceptRanges), ("unicode/utf8.first", laid_unicode_utf8_first)], narrowed := true }
def DeployCurrentUptoSaid : Prop := deployCurrentUptoRow.holds Tryd.pinned (OpenSpec.upto deployCurrentSpec)

end Rows
end Go.Proofs.YtennhjkhjplmoaaDoor
