/-
  DERIVED. GIVEN WITH THE SEED: THE CARDS: each row of YtennhjkhjplmoaaDoorRows.lean that lists a variable, with what it lists TIED to the program's text (the seventh form; the later family's looks); each row that meets fmt, with fmt's text TOLD by the authors' own Lean function (tested against real Go, not proved from fmt's source: count such statements apart). THE CARD IS WHAT COUNTS. Prove the row's statement (the work); the ties are given (YtennhjkhjplmoaaDoorTie.lean); close each card by the builder's one call (the guide's Derived/Test/ToyasCard.lean, 'card_holds'). Laid BY PROGRAM, IN A SANDBOX (cutbox-door.mjs). By AI agents, Wed Nov 11 2026. No macro, syntax, notation, axiom, sorry.
-/
import Derived.Test.YtennhjkhjplmoaaDoorRows
import GoSem.ClaimSeven
namespace Go.Proofs.YtennhjkhjplmoaaDoor
namespace Rows

/-- THE TIED CARD OF 'pipelinelaw45.DeployValid'. -/
def deployValidCard : Claim7 := { stood := { row := deployValidRow, standIns := [], harness := (true, "ad6fa18751c83374ce14215c0bb5fc65e7a5abc95fffeb9559a50ccfd1135371"), looks := false }, kinds := [], alts := [], laidByText := true, laidKinds := [.data, .pinned], laidTests := true, laidLooks := .later }
def DeployValidCardSaid : Prop := Claim7.holds Tryd.pinned (.plain (OpenSpec.ofChange deployValidSpec)) deployValidCard

/-- THE TIED CARD OF 'pipelinelaw45.DeployRequests'. -/
def deployRequestsCard : Claim7 := { stood := { row := deployRequestsRow, standIns := [], harness := (true, "ad6fa18751c83374ce14215c0bb5fc65e7a5abc95fffeb9559a50ccfd1135371"), looks := false }, kinds := [], alts := [], laidByText := true, laidKinds := [.data, .pinned], laidTests := true, laidLooks := .later }
def DeployRequestsCardSaid : Prop := Claim7.holds Tryd.pinned (.plain (OpenSpec.ofChange deployRequestsSpec)) deployRequestsCard

/-- THE TIED CARD OF 'pipelinelaw45.DeployLocked'. -/
def deployLockedCard : Claim7 := { stood := { row := deployLockedRow, standIns := [], harness := (true, "ad6fa18751c83374ce14215c0bb5fc65e7a5abc95fffeb9559a50ccfd1135371"), looks := false }, kinds := [], alts := [], laidByText := true, laidKinds := [.data, .pinned], laidTests := true, laidLooks := .later }
def DeployLockedCardSaid : Prop := Claim7.holds Tryd.pinned (.plain (OpenSpec.ofChange deployLockedSpec)) deployLockedCard

/-- THE TIED CARD OF 'pipelinelaw45.DeployFinishes'. -/
def deployFinishesCard : Claim7 := { stood := { row := deployFinishesRow, standIns := [], harness := (true, "ad6fa18751c83374ce14215c0bb5fc65e7a5abc95fffeb9559a50ccfd1135371"), looks := false }, kinds := [], alts := [], laidByText := true, laidKinds := [.data, .pinned], laidTests := true, laidLooks := .later }
def DeployFinishesCardSaid : Prop := Claim7.holds Tryd.pinned (.plain (OpenSpec.ofChange deployFinishesSpec)) deployFinishesCard

/-- THE TIED CARD OF 'pipelinelaw45.DeployLocks'. -/
def deployLocksCard : Claim7 := { stood := { row := deployLocksRow, standIns := [], harness := (true, "ad6fa18751c83374ce14215c0bb5fc65e7a5abc95fffeb9559a50ccfd1135371"), looks := false }, kinds := [], alts := [], laidByText := true, laidKinds := [.data, .pinned], laidTests := true, laidLooks := .later }
def DeployLocksCardSaid : Prop := Claim7.holds Tryd.pinned (.plain (OpenSpec.ofChange deployLocksSpec)) deployLocksCard

/-- THE TIED CARD OF 'pipelinelaw45.DeployCurrent'. -/
def deployCurrentCard : Claim7 := { stood := { row := deployCurrentRow, standIns := [], harness := (true, "ad6fa18751c83374ce14215c0bb5fc65e7a5abc95fffeb9559a50ccfd1135371"), looks := false }, kinds := [], alts := [], laidByText := true, laidKinds := [.data, .pinned], laidTests := true, laidLooks := .later }
def DeployCurrentCardSaid : Prop := Claim7.holds Tryd.pinned (.plain (OpenSpec.ofChange deployCurrentSpec)) deployCurrentCard

/-- THE SECOND FORM's CARD OF 'pipelinelaw45.DeployValid'. -/
def deployValidUptoCard : Claim7 := { stood := { row := deployValidUptoRow, standIns := [], harness := (true, "ad6fa18751c83374ce14215c0bb5fc65e7a5abc95fffeb9559a50ccfd1135371"), looks := false }, kinds := [], alts := [], laidByText := true, laidKinds := [.data, .pinned], laidTests := true, laidLooks := .later }
def DeployValidUptoCardSaid : Prop := Claim7.holds Tryd.pinned (.plain (OpenSpec.upto deployValidSpec)) deployValidUptoCard

/-- THE SECOND FORM's CARD OF 'pipelinelaw45.DeployRequests'. -/
def deployRequestsUptoCard : Claim7 := { stood := { row := deployRequestsUptoRow, standIns := [], harness := (true, "ad6fa18751c83374ce14215c0bb5fc65e7a5abc95fffeb9559a50ccfd1135371"), looks := false }, kinds := [], alts := [], laidByText := true, laidKinds := [.data, .pinned], laidTests := true, laidLooks := .later }
def DeployRequestsUptoCardSaid : Prop := Claim7.holds Tryd.pinned (.plain (OpenSpec.upto deployRequestsSpec)) deployRequestsUptoCard

/-- THE SECOND FORM's CARD OF 'pipelinelaw45.DeployLocked'. -/
def deployLockedUptoCard : Claim7 := { stood := { row := deployLockedUptoRow, standIns := [], harness := (true, "ad6fa18751c83374ce14215c0bb5fc65e7a5abc95fffeb9559a50ccfd1135371"), looks := false }, kinds := [], alts := [], laidByText := true, laidKinds := [.data, .pinned], laidTests := true, laidLooks := .later }
def DeployLockedUptoCardSaid : Prop := Claim7.holds Tryd.pinned (.plain (OpenSpec.upto deployLockedSpec)) deployLockedUptoCard

/-- THE SECOND FORM's CARD OF 'pipelinelaw45.DeployFinishes'. -/
def deployFinishesUptoCard : Claim7 := { stood := { row := deployFinishesUptoRow, standIns := [], harness := (true, "ad6fa18751c83374ce14215c0bb5fc65e7a5abc95fffeb9559a50ccfd1135371"), looks := false }, kinds := [], alts := [], laidByText := true, laidKinds := [.data, .pinned], laidTests := true, laidLooks := .later }
def DeployFinishesUptoCardSaid : Prop := Claim7.holds Tryd.pinned (.plain (OpenSpec.upto deployFinishesSpec)) deployFinishesUptoCard

/-- THE SECOND FORM's CARD OF 'pipelinelaw45.DeployLocks'. -/
def deployLocksUptoCard : Claim7 := { stood := { row := deployLocksUptoRow, standIns := [], harness := (true, "ad6fa18751c83374ce14215c0bb5fc65e7a5abc95fffeb9559a50ccfd1135371"), looks := false }, kinds := [], alts := [], laidByText := true, laidKinds := [.data, .pinned], laidTests := true, laidLooks := .later }
def DeployLocksUptoCardSaid : Prop := Claim7.holds Tryd.pinned (.plain (OpenSpec.upto deployLocksSpec)) deployLocksUptoCard

/-- THE SECOND FORM's CARD OF 'pipelinelaw45.DeployCurrent'. -/
def deployCurrentUptoCard : Claim7 := { stood := { row := deployCurrentUptoRow, standIns := [], harness := (true, "ad6fa18751c83374ce14215c0bb5fc65e7a5abc95fffeb9559a50ccfd1135371"), looks := false }, kinds := [], alts := [], laidByText := true, laidKinds := [.data, .pinned], laidTests := true, laidLooks := .later }
def DeployCurrentUptoCardSaid : Prop := Claim7.holds Tryd.pinned (.plain (OpenSpec.upto deployCurrentSpec)) deployCurrentUptoCard
end Rows
end Go.Proofs.YtennhjkhjplmoaaDoor
