/-
  DERIVED. GIVEN WITH THE SEED: THE CARDS: each row of YtclinbpkcmcokaaDoorRows.lean that lists a variable, with what it lists TIED to the program's text (the seventh form; the later family's looks); each row that meets fmt, with fmt's text TOLD by the authors' own Lean function (tested against real Go, not proved from fmt's source: count such statements apart). THE CARD IS WHAT COUNTS. Prove the row's statement (the work); the ties are given (YtclinbpkcmcokaaDoorTie.lean); close each card by the builder's one call (the guide's Derived/Test/ToyasCard.lean, 'card_holds'). Laid BY PROGRAM, IN A SANDBOX (cutbox-door.mjs). By AI agents, Wed Nov 11 2026. No macro, syntax, notation, axiom, sorry.
-/
import Derived.Test.YtclinbpkcmcokaaDoorRows
import GoSem.ClaimSeven
namespace Go.Proofs.YtclinbpkcmcokaaDoor
namespace Rows

/-- THE TIED CARD OF 'pipelinelaw34.ArtifactPuts'. -/
def artifactPutsCard : Claim7 := { stood := { row := artifactPutsRow, standIns := [], harness := (true, "3af9f91a206ea07aa381e136b4eec1bea8c504f89159b733ebbe3fe67026a498"), looks := false }, kinds := [], alts := [], laidByText := true, laidKinds := [.data, .pinned], laidTests := true, laidLooks := .later }
def ArtifactPutsCardSaid : Prop := Claim7.holds Tryd.pinned (.plain (OpenSpec.ofChange artifactPutsSpec)) artifactPutsCard

/-- THE TIED CARD OF 'pipelinelaw34.ArtifactFull'. -/
def artifactFullCard : Claim7 := { stood := { row := artifactFullRow, standIns := [], harness := (true, "3af9f91a206ea07aa381e136b4eec1bea8c504f89159b733ebbe3fe67026a498"), looks := false }, kinds := [], alts := [], laidByText := true, laidKinds := [.data, .pinned], laidTests := true, laidLooks := .later }
def ArtifactFullCardSaid : Prop := Claim7.holds Tryd.pinned (.plain (OpenSpec.ofChange artifactFullSpec)) artifactFullCard

/-- THE TIED CARD OF 'pipelinelaw34.ArtifactKeeps'. -/
def artifactKeepsCard : Claim7 := { stood := { row := artifactKeepsRow, standIns := [], harness := (true, "3af9f91a206ea07aa381e136b4eec1bea8c504f89159b733ebbe3fe67026a498"), looks := false }, kinds := [], alts := [], laidByText := true, laidKinds := [.data, .pinned], laidTests := true, laidLooks := .later }
def ArtifactKeepsCardSaid : Prop := Claim7.holds Tryd.pinned (.plain (OpenSpec.ofChange artifactKeepsSpec)) artifactKeepsCard

/-- THE TIED CARD OF 'pipelinelaw34.ArtifactGets'. -/
def artifactGetsCard : Claim7 := { stood := { row := artifactGetsRow, standIns := [], harness := (true, "3af9f91a206ea07aa381e136b4eec1bea8c504f89159b733ebbe3fe67026a498"), looks := false }, kinds := [], alts := [], laidByText := true, laidKinds := [.data, .pinned], laidTests := true, laidLooks := .later }
def ArtifactGetsCardSaid : Prop := Claim7.holds Tryd.pinned (.plain (OpenSpec.ofChange artifactGetsSpec)) artifactGetsCard

/-- THE SECOND FORM's CARD OF 'pipelinelaw34.ArtifactPuts'. -/
def artifactPutsUptoCard : Claim7 := { stood := { row := artifactPutsUptoRow, standIns := [], harness := (true, "3af9f91a206ea07aa381e136b4eec1bea8c504f89159b733ebbe3fe67026a498"), looks := false }, kinds := [], alts := [], laidByText := true, laidKinds := [.data, .pinned], laidTests := true, laidLooks := .later }
def ArtifactPutsUptoCardSaid : Prop := Claim7.holds Tryd.pinned (.plain (OpenSpec.upto artifactPutsSpec)) artifactPutsUptoCard

/-- THE SECOND FORM's CARD OF 'pipelinelaw34.ArtifactFull'. -/
def artifactFullUptoCard : Claim7 := { stood := { row := artifactFullUptoRow, standIns := [], harness := (true, "3af9f91a206ea07aa381e136b4eec1bea8c504f89159b733ebbe3fe67026a498"), looks := false }, kinds := [], alts := [], laidByText := true, laidKinds := [.data, .pinned], laidTests := true, laidLooks := .later }
def ArtifactFullUptoCardSaid : Prop := Claim7.holds Tryd.pinned (.plain (OpenSpec.upto artifactFullSpec)) artifactFullUptoCard

/-- THE SECOND FORM's CARD OF 'pipelinelaw34.ArtifactKeeps'. -/
def artifactKeepsUptoCard : Claim7 := { stood := { row := artifactKeepsUptoRow, standIns := [], harness := (true, "3af9f91a206ea07aa381e136b4eec1bea8c504f89159b733ebbe3fe67026a498"), looks := false }, kinds := [], alts := [], laidByText := true, laidKinds := [.data, .pinned], laidTests := true, laidLooks := .later }
def ArtifactKeepsUptoCardSaid : Prop := Claim7.holds Tryd.pinned (.plain (OpenSpec.upto artifactKeepsSpec)) artifactKeepsUptoCard

/-- THE SECOND FORM's CARD OF 'pipelinelaw34.ArtifactGets'. -/
def artifactGetsUptoCard : Claim7 := { stood := { row := artifactGetsUptoRow, standIns := [], harness := (true, "3af9f91a206ea07aa381e136b4eec1bea8c504f89159b733ebbe3fe67026a498"), looks := false }, kinds := [], alts := [], laidByText := true, laidKinds := [.data, .pinned], laidTests := true, laidLooks := .later }
def ArtifactGetsUptoCardSaid : Prop := Claim7.holds Tryd.pinned (.plain (OpenSpec.upto artifactGetsSpec)) artifactGetsUptoCard
end Rows
end Go.Proofs.YtclinbpkcmcokaaDoor
