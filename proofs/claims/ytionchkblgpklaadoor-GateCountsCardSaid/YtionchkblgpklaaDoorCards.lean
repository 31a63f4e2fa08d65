/-
  DERIVED. GIVEN WITH THE SEED: THE CARDS: each row of YtionchkblgpklaaDoorRows.lean that lists a variable, with what it lists TIED to the program's text (the seventh form; the later family's looks); each row that meets fmt, with fmt's text TOLD by the authors' own Lean function (tested against real Go, not proved from fmt's source: count such statements apart). THE CARD IS WHAT COUNTS. Prove the row's statement (the work); the ties are given (YtionchkblgpklaaDoorTie.lean); close each card by the builder's one call (the guide's Derived/Test/ToyasCard.lean, 'card_holds'). Laid BY PROGRAM, IN A SANDBOX (cutbox-door.mjs). By AI agents, Wed Nov 11 2026. No macro, syntax, notation, axiom, sorry.
-/
import Derived.Test.YtionchkblgpklaaDoorRows
import GoSem.ClaimSeven
namespace Go.Proofs.YtionchkblgpklaaDoor
namespace Rows

/-- THE TIED CARD OF 'pipelinelaw44.GateOpens'. -/
def gateOpensCard : Claim7 := { stood := { row := gateOpensRow, standIns := [], harness := (true, "31186588bcae3388274bb76b1a354b0f93f512d1c6893588a29583fa2abd93c7"), looks := false }, kinds := [], alts := [], laidByText := true, laidKinds := [.data, .pinned], laidTests := true, laidLooks := .later }
def GateOpensCardSaid : Prop := Claim7.holds Tryd.pinned (.plain (OpenSpec.ofChange gateOpensSpec)) gateOpensCard

/-- THE TIED CARD OF 'pipelinelaw44.GateDecides'. -/
def gateDecidesCard : Claim7 := { stood := { row := gateDecidesRow, standIns := [], harness := (true, "31186588bcae3388274bb76b1a354b0f93f512d1c6893588a29583fa2abd93c7"), looks := false }, kinds := [], alts := [], laidByText := true, laidKinds := [.data, .pinned], laidTests := true, laidLooks := .later }
def GateDecidesCardSaid : Prop := Claim7.holds Tryd.pinned (.plain (OpenSpec.ofChange gateDecidesSpec)) gateDecidesCard

/-- THE TIED CARD OF 'pipelinelaw44.GateExpires'. -/
def gateExpiresCard : Claim7 := { stood := { row := gateExpiresRow, standIns := [], harness := (true, "31186588bcae3388274bb76b1a354b0f93f512d1c6893588a29583fa2abd93c7"), looks := false }, kinds := [], alts := [], laidByText := true, laidKinds := [.data, .pinned], laidTests := true, laidLooks := .later }
def GateExpiresCardSaid : Prop := Claim7.holds Tryd.pinned (.plain (OpenSpec.ofChange gateExpiresSpec)) gateExpiresCard

/-- THE TIED CARD OF 'pipelinelaw44.GateCounts'. -/
def gateCountsCard : Claim7 := { stood := { row := gateCountsRow, standIns := [], harness := (true, "31186588bcae3388274bb76b1a354b0f93f512d1c6893588a29583fa2abd93c7"), looks := false }, kinds := [], alts := [], laidByText := true, laidKinds := [.data, .pinned], laidTests := true, laidLooks := .later }
def GateCountsCardSaid : Prop := Claim7.holds Tryd.pinned (.plain (OpenSpec.ofChange gateCountsSpec)) gateCountsCard

/-- THE TIED CARD OF 'pipelinelaw44.GateTurns'. -/
def gateTurnsCard : Claim7 := { stood := { row := gateTurnsRow, standIns := [], harness := (true, "31186588bcae3388274bb76b1a354b0f93f512d1c6893588a29583fa2abd93c7"), looks := false }, kinds := [], alts := [], laidByText := true, laidKinds := [.data, .pinned], laidTests := true, laidLooks := .later }
def GateTurnsCardSaid : Prop := Claim7.holds Tryd.pinned (.plain (OpenSpec.ofChange gateTurnsSpec)) gateTurnsCard

/-- THE SECOND FORM's CARD OF 'pipelinelaw44.GateOpens'. -/
def gateOpensUptoCard : Claim7 := { stood := { row := gateOpensUptoRow, standIns := [], harness := (true, "31186588bcae3388274bb76b1a354b0f93f512d1c6893588a29583fa2abd93c7"), looks := false }, kinds := [], alts := [], laidByText := true, laidKinds := [.data, .pinned], laidTests := true, laidLooks := .later }
def GateOpensUptoCardSaid : Prop := Claim7.holds Tryd.pinned (.plain (OpenSpec.upto gateOpensSpec)) gateOpensUptoCard

/-- THE SECOND FORM's CARD OF 'pipelinelaw44.GateDecides'. -/
def gateDecidesUptoCard : Claim7 := { stood := { row := gateDecidesUptoRow, standIns := [], harness := (true, "31186588bcae3388274bb76b1a354b0f93f512d1c6893588a29583fa2abd93c7"), looks := false }, kinds := [], alts := [], laidByText := true, laidKinds := [.data, .pinned], laidTests := true, laidLooks := .later }
def GateDecidesUptoCardSaid : Prop := Claim7.holds Tryd.pinned (.plain (OpenSpec.upto gateDecidesSpec)) gateDecidesUptoCard

/-- THE SECOND FORM's CARD OF 'pipelinelaw44.GateExpires'. -/
def gateExpiresUptoCard : Claim7 := { stood := { row := gateExpiresUptoRow, standIns := [], harness := (true, "31186588bcae3388274bb76b1a354b0f93f512d1c6893588a29583fa2abd93c7"), looks := false }, kinds := [], alts := [], laidByText := true, laidKinds := [.data, .pinned], laidTests := true, laidLooks := .later }
def GateExpiresUptoCardSaid : Prop := Claim7.holds Tryd.pinned (.plain (OpenSpec.upto gateExpiresSpec)) gateExpiresUptoCard

/-- THE SECOND FORM's CARD OF 'pipelinelaw44.GateCounts'. -/
def gateCountsUptoCard : Claim7 := { stood := { row := gateCountsUptoRow, standIns := [], harness := (true, "31186588bcae3388274bb76b1a354b0f93f512d1c6893588a29583fa2abd93c7"), looks := false }, kinds := [], alts := [], laidByText := true, laidKinds := [.data, .pinned], laidTests := true, laidLooks := .later }
def GateCountsUptoCardSaid : Prop := Claim7.holds Tryd.pinned (.plain (OpenSpec.upto gateCountsSpec)) gateCountsUptoCard

/-- THE SECOND FORM's CARD OF 'pipelinelaw44.GateTurns'. -/
def gateTurnsUptoCard : Claim7 := { stood := { row := gateTurnsUptoRow, standIns := [], harness := (true, "31186588bcae3388274bb76b1a354b0f93f512d1c6893588a29583fa2abd93c7"), looks := false }, kinds := [], alts := [], laidByText := true, laidKinds := [.data, .pinned], laidTests := true, laidLooks := .later }
def GateTurnsUptoCardSaid : Prop := Claim7.holds Tryd.pinned (.plain (OpenSpec.upto gateTurnsSpec)) gateTurnsUptoCard
end Rows
end Go.Proofs.YtionchkblgpklaaDoor
