/-
  NARROWER THAN 'FOR EVERY INPUT', by the rows' own cells (each row's printed sentence says how): OctetsRecords: loops · OctetsBack: loops.
  DERIVED. THE GIVEN ROWS OF THIS SEAT. 6 by the template 'for every input the law returns true; each argument reads behind the call as it read before'; 0 by the template 'total and deterministic' (their statements: YtjipnomokggcfaaTotals.lean).
  GIVEN WITH THE SEED: the statements are not yours to turn. If you find one false, say at which input.
  Laid BY PROGRAM, IN A SANDBOX (cutbox-rows.mjs): the forced cells as the released guide's own fill.sh prints them over the translation bed51a18eb8edab7… (all of the seat's roots in one cut). By AI agents, Wed Nov 11 2026. No macro, syntax, notation, axiom, sorry.
-/
import Derived.Test.YtjipnomokggcfaaChecked
import GoSem.Claim
import GoSem.ClaimJoined
import GoSem.ClaimMapViews
import Derived.JoinedTies
import Derived.KernelRfl
namespace Go.Proofs.Ytjipnomokggcfaa
/- THE CELL 'sum', in the pinned program and in every row, IS THE sha256 OF THE DUMP (.gsa) THAT YtjipnomokggcfaaProg.lean LOADS. Nothing in Lean hashes anything: it is a label: what it is worth is what the hold of that sum in a sandbox is worth. -/
noncomputable def Try.pinned : Pinned := { name := "ytjipnomokggcfaa", sum := "bed51a18eb8edab7d0f90c8cde88c986c637933e597a2c169cfb50951dad07b0", checked := Try.checked }
namespace Rows
def none {H : Type} : Left H := { results := [], args := [] }

/-- 'pipelinelaw02.OctetsRecords': WHATEVER THE INPUT: true; the input reads as it did. -/
def octetsRecordsSpec : ChangeSpec := { name := "octetsRecords", fn := fun _ => fun
  | [d] => { results := [.lit (.bool true)], args := [d] }
  | _ => none }
def octetsRecordsRow : OpenClaim := { program := "ytjipnomokggcfaa", sum := "bed51a18eb8edab7d0f90c8cde88c986c637933e597a2c169cfb50951dad07b0", func := "pipeline/pipelinelaw02.OctetsRecords", spec := "octetsRecords", recurses := true, loops := true, apart := false }
def OctetsRecordsSaid : Prop := octetsRecordsRow.holds Try.pinned (OpenSpec.ofChange octetsRecordsSpec)

/-- ITS FALSE NEIGHBOUR: 'it returns false'. Refute it at one input. -/
def octetsRecordsWrong : ChangeSpec := { name := "octetsRecords", fn := fun _ => fun
  | [d] => { results := [.lit (.bool false)], args := [d] }
  | _ => none }
def OctetsRecordsWrongFalsely : Prop := octetsRecordsRow.holds Try.pinned (OpenSpec.ofChange octetsRecordsWrong)

/-- 'pipelinelaw02.OctetsNumbers': WHATEVER THE INPUT: true; the input reads as it did. -/
def octetsNumbersSpec : ChangeSpec := { name := "octetsNumbers", fn := fun _ => fun
  | [d1, d2, d3] => { results := [.lit (.bool true)], args := [d1, d2, d3] }
  | _ => none }
def octetsNumbersRow : OpenClaim := { program := "ytjipnomokggcfaa", sum := "bed51a18eb8edab7d0f90c8cde88c986c637933e597a2c169cfb50951dad07b0", func := "pipeline/pipelinelaw02.OctetsNumbers", spec := "octetsNumbers", recurses := true, apart := false }
def OctetsNumbersSaid : Prop := octetsNumbersRow.holds Try.pinned (OpenSpec.ofChange octetsNumbersSpec)

/-- ITS FALSE NEIGHBOUR: 'it returns false'. Refute it at one input. -/
def octetsNumbersWrong : ChangeSpec := { name := "octetsNumbers", fn := fun _ => fun
  | [d1, d2, d3] => { results := [.lit (.bool false)], args := [d1, d2, d3] }
  | _ => none }
def OctetsNumbersWrongFalsely : Prop := octetsNumbersRow.holds Try.pinned (OpenSpec.ofChange octetsNumbersWrong)

/-- 'pipelinelaw02.OctetsStrings': WHATEVER THE INPUT: true; the input reads as it did. -/
def octetsStringsSpec : ChangeSpec := { name := "octetsStrings", fn := fun _ => fun
  | [d] => { results := [.lit (.bool true)], args := [d] }
  | _ => none }
def octetsStringsRow : OpenClaim := { program := "ytjipnomokggcfaa", sum := "bed51a18eb8edab7d0f90c8cde88c986c637933e597a2c169cfb50951dad07b0", func := "pipeline/pipelinelaw02.OctetsStrings", spec := "octetsStrings", recurses := true, apart := false }
def OctetsStringsSaid : Prop := octetsStringsRow.holds Try.pinned (OpenSpec.ofChange octetsStringsSpec)

/-- ITS FALSE NEIGHBOUR: 'it returns false'. Refute it at one input. -/
def octetsStringsWrong : ChangeSpec := { name := "octetsStrings", fn := fun _ => fun
  | [d] => { results := [.lit (.bool false)], args := [d] }
  | _ => none }
def OctetsStringsWrongFalsely : Prop := octetsStringsRow.holds Try.pinned (OpenSpec.ofChange octetsStringsWrong)

/-- 'pipelinelaw02.OctetsTakes': WHATEVER THE INPUT: true; the input reads as it did. -/
def octetsTakesSpec : ChangeSpec := { name := "octetsTakes", fn := fun _ => fun
  | [d] => { results := [.lit (.bool true)], args := [d] }
  | _ => none }
def octetsTakesRow : OpenClaim := { program := "ytjipnomokggcfaa", sum := "bed51a18eb8edab7d0f90c8cde88c986c637933e597a2c169cfb50951dad07b0", func := "pipeline/pipelinelaw02.OctetsTakes", spec := "octetsTakes", recurses := true, apart := false }
def OctetsTakesSaid : Prop := octetsTakesRow.holds Try.pinned (OpenSpec.ofChange octetsTakesSpec)

/-- ITS FALSE NEIGHBOUR: 'it returns false'. Refute it at one input. -/
def octetsTakesWrong : ChangeSpec := { name := "octetsTakes", fn := fun _ => fun
  | [d] => { results := [.lit (.bool false)], args := [d] }
  | _ => none }
def OctetsTakesWrongFalsely : Prop := octetsTakesRow.holds Try.pinned (OpenSpec.ofChange octetsTakesWrong)

/-- 'pipelinelaw02.OctetsFields': WHATEVER THE INPUT: true; the input reads as it did. -/
def octetsFieldsSpec : ChangeSpec := { name := "octetsFields", fn := fun _ => fun
  | [d] => { results := [.lit (.bool true)], args := [d] }
  | _ => none }
def octetsFieldsRow : OpenClaim := { program := "ytjipnomokggcfaa", sum := "bed51a18eb8edab7d0f90c8cde88c986c637933e597a2c169cfb50951dad07b0", func := "pipeline/pipelinelaw02.OctetsFields", spec := "octetsFields", recurses := true, apart := false }
def OctetsFieldsSaid : Prop := octetsFieldsRow.holds Try.pinned (OpenSpec.ofChange octetsFieldsSpec)

/-- ITS FALSE NEIGHBOUR: 'it returns false'. Refute it at one input. -/
def octetsFieldsWrong : ChangeSpec := { name := "octetsFields", fn := fun _ => fun
  | [d] => { results := [.lit (.bool false)], args := [d] }
  | _ => none }
def OctetsFieldsWrongFalsely : Prop := octetsFieldsRow.holds Try.pinned (OpenSpec.ofChange octetsFieldsWrong)

/-- 'pipelinelaw02.OctetsBack': WHATEVER THE INPUT: true; the input reads as it did. -/
def octetsBackSpec : ChangeSpec := { name := "octetsBack", fn := fun _ => fun
  | [d1, d2, d3] => { results := [.lit (.bool true)], args := [d1, d2, d3] }
  | _ => none }
def octetsBackRow : OpenClaim := { program := "ytjipnomokggcfaa", sum := "bed51a18eb8edab7d0f90c8cde88c986c637933e597a2c169cfb50951dad07b0", func := "pipeline/pipelinelaw02.OctetsBack", spec := "octetsBack", recurses := true, loops := true, apart := false }
def OctetsBackSaid : Prop := octetsBackRow.holds Try.pinned (OpenSpec.ofChange octetsBackSpec)

/-- ITS FALSE NEIGHBOUR: 'it returns false'. Refute it at one input. -/
def octetsBackWrong : ChangeSpec := { name := "octetsBack", fn := fun _ => fun
  | [d1, d2, d3] => { results := [.lit (.bool false)], args := [d1, d2, d3] }
  | _ => none }
def OctetsBackWrongFalsely : Prop := octetsBackRow.holds Try.pinned (OpenSpec.ofChange octetsBackWrong)

/- THE SECOND FORM. 'bulk': how many values and letters a reading holds, each counted each time it is reached (what is shared counts as often as it is met; a slice's spare places count too). A statement '..UptoSaid' is the law's where the arguments, and the package variables that the reading takes, are together of bulk at most 1048576: NARROWER than '..Said'. Prove '..Said' where nothing that the law and all that it calls make is longer than what came in: it says more and counts as full. Else prove '..UptoSaid'. A law counts once. -/
mutual
def uptoBulk {H : Type} : DataW H → Nat
  | .lit (.string bytes) => bytes.length + 1
  | .lit _ => 1
  | .nil => 1
  | .ptr d => uptoBulk d + 1
  | .slice elems spare => uptoBulkAll elems + uptoBulkAll spare + 1
  | .agg parts => uptoBulkAll parts + 1
  | .iface _ d => uptoBulk d + 1
  | .map entries => uptoBulkEntries entries + 1
  | .held _ => 1
def uptoBulkAll {H : Type} : List (DataW H) → Nat
  | [] => 0
  | d :: r => uptoBulk d + uptoBulkAll r
def uptoBulkEntries {H : Type} : List (Lit × DataW H) → Nat
  | [] => 0
  | x :: r => uptoBulkEntry x + uptoBulkEntries r
def uptoBulkEntry {H : Type} : Lit × DataW H → Nat
  | (.string bytes, d) => bytes.length + uptoBulk d + 1
  | (_, d) => uptoBulk d + 1
 end
def uptoSmall : (H : Type) → List (DataW H) → Bool := fun _ ds => decide (uptoBulkAll ds ≤ 1048576)
def OpenSpec.upto (s : _root_.Go.ChangeSpec) : _root_.Go.OpenSpec := { _root_.Go.OpenSpec.ofChange s with cond := some uptoSmall }

/-- 'pipelinelaw02.OctetsRecords', WHERE WHAT IT READS IS OF BULK AT MOST 1048576: true; the input reads as it did. -/
def octetsRecordsUptoRow : OpenClaim := { program := "ytjipnomokggcfaa", sum := "bed51a18eb8edab7d0f90c8cde88c986c637933e597a2c169cfb50951dad07b0", func := "pipeline/pipelinelaw02.OctetsRecords", spec := "octetsRecords", recurses := true, loops := true, apart := false, narrowed := true }
def OctetsRecordsUptoSaid : Prop := octetsRecordsUptoRow.holds Try.pinned (OpenSpec.upto octetsRecordsSpec)

/-- 'pipelinelaw02.OctetsNumbers', WHERE WHAT IT READS IS OF BULK AT MOST 1048576: true; the input reads as it did. -/
def octetsNumbersUptoRow : OpenClaim := { program := "ytjipnomokggcfaa", sum := "bed51a18eb8edab7d0f90c8cde88c986c637933e597a2c169cfb50951dad07b0", func := "pipeline/pipelinelaw02.OctetsNumbers", spec := "octetsNumbers", recurses := true, apart := false, narrowed := true }
def OctetsNumbersUptoSaid : Prop := octetsNumbersUptoRow.holds Try.pinned (OpenSpec.upto octetsNumbersSpec)

/-- 'pipelinelaw02.OctetsStrings', WHERE WHAT IT READS IS OF BULK AT MOST 1048576: true; the input reads as it did. -/
def octetsStringsUptoRow : OpenClaim := { program := "ytjipnomokggcfaa", sum := "bed51a18eb8edab7d0f90c8cde88c986c637933e597a2c169cfb50951dad07b0", func := "pipeline/pipelinelaw02.OctetsStrings", spec := "octetsStrings", recurses := true, apart := false, narrowed := true }
def OctetsStringsUptoSaid : Prop := octetsStringsUptoRow.holds Try.pinned (OpenSpec.upto octetsStringsSpec)

/-- 'pipelinelaw02.OctetsTakes', WHERE WHAT IT READS IS OF BULK AT MOST 1048576: true; the input reads as it did. -/
def octetsTakesUptoRow : OpenClaim := { program := "ytjipnomokggcfaa", sum := "bed51a18eb8edab7d0f90c8cde88c986c637933e597a2c169cfb50951dad07b0", func := "pipeline/pipelinelaw02.OctetsTakes", spec := "octetsTakes", recurses := true, apart := false, narrowed := true }
def OctetsTakesUptoSaid : Prop := octetsTakesUptoRow.holds Try.pinned (OpenSpec.upto octetsTakesSpec)

/-- 'pipelinelaw02.OctetsFields', WHERE WHAT IT READS IS OF BULK AT MOST 1048576: true; the input reads as it did. -/
def octetsFieldsUptoRow : OpenClaim := { program := "ytjipnomokggcfaa", sum := "bed51a18eb8edab7d0f90c8cde88c986c637933e597a2c169cfb50951dad07b0", func := "pipeline/pipelinelaw02.OctetsFields", spec := "octetsFields", recurses := true, apart := false, narrowed := true }
def OctetsFieldsUptoSaid : Prop := octetsFieldsUptoRow.holds Try.pinned (OpenSpec.upto octetsFieldsSpec)

/-- 'pipelinelaw02.OctetsBack', WHERE WHAT IT READS IS OF BULK AT MOST 1048576: true; the input reads as it did. -/
def octetsBackUptoRow : OpenClaim := { program := "ytjipnomokggcfaa", sum := "bed51a18eb8edab7d0f90c8cde88c986c637933e597a2c169cfb50951dad07b0", func := "pipeline/pipelinelaw02.OctetsBack", spec := "octetsBack", recurses := true, loops := true, apart := false, narrowed := true }
def OctetsBackUptoSaid : Prop := octetsBackUptoRow.holds Try.pinned (OpenSpec.upto octetsBackSpec)

end Rows
end Go.Proofs.Ytjipnomokggcfaa
