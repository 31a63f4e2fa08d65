/-
  DERIVED. GIVEN WITH THE SEED: THE CARDS: each row of YtlpeblgcniggmaaDoorRows.lean that lists a variable, with what it lists TIED to the program's text (the seventh form; the later family's looks); each row that meets fmt, with fmt's text TOLD by the authors' own Lean function (tested against real Go, not proved from fmt's source: count such statements apart). THE CARD IS WHAT COUNTS. Prove the row's statement (the work); the ties are given (YtlpeblgcniggmaaDoorTie.lean); close each card by the builder's one call (the guide's Derived/Test/ToyasCard.lean, 'card_holds'). Laid BY PROGRAM, IN A SANDBOX (cutbox-door.mjs). By AI agents, Wed Nov 11 2026. No macro, syntax, notation, axiom, sorry.
-/
import Derived.Test.YtlpeblgcniggmaaDoorRows
import GoSem.ClaimSeven
namespace Go.Proofs.YtlpeblgcniggmaaDoor
namespace Rows

/-- THE TIED CARD OF 'pipelinelaw31.TrustLevels'. -/
def trustLevelsCard : Claim7 := { stood := { row := trustLevelsRow, standIns := [], harness := (true, "f0538f6965528c7d73aec34807d93ee9a1e47d05c09b0bb709fe3b51da66e34e"), looks := false }, kinds := [], alts := [], laidByText := true, laidKinds := [.data, .pinned], laidTests := true, laidLooks := .later }
def TrustLevelsCardSaid : Prop := Claim7.holds Tryd.pinned (.plain (OpenSpec.ofChange trustLevelsSpec)) trustLevelsCard

/-- THE TIED CARD OF 'pipelinelaw31.TrustReads'. -/
def trustReadsCard : Claim7 := { stood := { row := trustReadsRow, standIns := [], harness := (true, "f0538f6965528c7d73aec34807d93ee9a1e47d05c09b0bb709fe3b51da66e34e"), looks := false }, kinds := [], alts := [], laidByText := true, laidKinds := [.data, .pinned], laidTests := true, laidLooks := .later }
def TrustReadsCardSaid : Prop := Claim7.holds Tryd.pinned (.plain (OpenSpec.ofChange trustReadsSpec)) trustReadsCard

/-- THE TIED CARD OF 'pipelinelaw31.TrustRuns'. -/
def trustRunsCard : Claim7 := { stood := { row := trustRunsRow, standIns := [], harness := (true, "f0538f6965528c7d73aec34807d93ee9a1e47d05c09b0bb709fe3b51da66e34e"), looks := false }, kinds := [], alts := [], laidByText := true, laidKinds := [.data, .pinned], laidTests := true, laidLooks := .later }
def TrustRunsCardSaid : Prop := Claim7.holds Tryd.pinned (.plain (OpenSpec.ofChange trustRunsSpec)) trustRunsCard

/-- THE TIED CARD OF 'pipelinelaw31.TrustForks'. -/
def trustForksCard : Claim7 := { stood := { row := trustForksRow, standIns := [], harness := (true, "f0538f6965528c7d73aec34807d93ee9a1e47d05c09b0bb709fe3b51da66e34e"), looks := false }, kinds := [], alts := [], laidByText := true, laidKinds := [.data, .pinned], laidTests := true, laidLooks := .later }
def TrustForksCardSaid : Prop := Claim7.holds Tryd.pinned (.plain (OpenSpec.ofChange trustForksSpec)) trustForksCard

/-- THE TIED CARD OF 'pipelinelaw31.TrustFlows'. -/
def trustFlowsCard : Claim7 := { stood := { row := trustFlowsRow, standIns := [], harness := (true, "f0538f6965528c7d73aec34807d93ee9a1e47d05c09b0bb709fe3b51da66e34e"), looks := false }, kinds := [], alts := [], laidByText := true, laidKinds := [.data, .pinned], laidTests := true, laidLooks := .later }
def TrustFlowsCardSaid : Prop := Claim7.holds Tryd.pinned (.plain (OpenSpec.ofChange trustFlowsSpec)) trustFlowsCard

/-- THE SECOND FORM's CARD OF 'pipelinelaw31.TrustLevels'. -/
def trustLevelsUptoCard : Claim7 := { stood := { row := trustLevelsUptoRow, standIns := [], harness := (true, "f0538f6965528c7d73aec34807d93ee9a1e47d05c09b0bb709fe3b51da66e34e"), looks := false }, kinds := [], alts := [], laidByText := true, laidKinds := [.data, .pinned], laidTests := true, laidLooks := .later }
def TrustLevelsUptoCardSaid : Prop := Claim7.holds Tryd.pinned (.plain (OpenSpec.upto trustLevelsSpec)) trustLevelsUptoCard

/-- THE SECOND FORM's CARD OF 'pipelinelaw31.TrustReads'. -/
def trustReadsUptoCard : Claim7 := { stood := { row := trustReadsUptoRow, standIns := [], harness := (true, "f0538f6965528c7d73aec34807d93ee9a1e47d05c09b0bb709fe3b51da66e34e"), looks := false }, kinds := [], alts := [], laidByText := true, laidKinds := [.data, .pinned], laidTests := true, laidLooks := .later }
def TrustReadsUptoCardSaid : Prop := Claim7.holds Tryd.pinned (.plain (OpenSpec.upto trustReadsSpec)) trustReadsUptoCard

/-- THE SECOND FORM's CARD OF 'pipelinelaw31.TrustRuns'. -/
def trustRunsUptoCard : Claim7 := { stood := { row := trustRunsUptoRow, standIns := [], harness := (true, "f0538f6965528c7d73aec34807d93ee9a1e47d05c09b0bb709fe3b51da66e34e"), looks := false }, kinds := [], alts := [], laidByText := true, laidKinds := [.data, .pinned], laidTests := true, laidLooks := .later }
def TrustRunsUptoCardSaid : Prop := Claim7.holds Tryd.pinned (.plain (OpenSpec.upto trustRunsSpec)) trustRunsUptoCard

/-- THE SECOND FORM's CARD OF 'pipelinelaw31.TrustForks'. -/
def trustForksUptoCard : Claim7 := { stood := { row := trustForksUptoRow, standIns := [], harness := (true, "f0538f6965528c7d73aec34807d93ee9a1e47d05c09b0bb709fe3b51da66e34e"), looks := false }, kinds := [], alts := [], laidByText := true, laidKinds := [.data, .pinned], laidTests := true, laidLooks := .later }
def TrustForksUptoCardSaid : Prop := Claim7.holds Tryd.pinned (.plain (OpenSpec.upto trustForksSpec)) trustForksUptoCard

/-- THE SECOND FORM's CARD OF 'pipelinelaw31.TrustFlows'. -/
def trustFlowsUptoCard : Claim7 := { stood := { row := trustFlowsUptoRow, standIns := [], harness := (true, "f0538f6965528c7d73aec34807d93ee9a1e47d05c09b0bb709fe3b51da66e34e"), looks := false }, kinds := [], alts := [], laidByText := true, laidKinds := [.data, .pinned], laidTests := true, laidLooks := .later }
def TrustFlowsUptoCardSaid : Prop := Claim7.holds Tryd.pinned (.plain (OpenSpec.upto trustFlowsSpec)) trustFlowsUptoCard
end Rows
end Go.Proofs.YtlpeblgcniggmaaDoor
