/-
  DERIVED. GIVEN WITH THE SEED: THE CARDS: each row of YtgloblokkejgmaaDoorRows.lean that lists a variable, with what it lists TIED to the program's text (the seventh form; the later family's looks); each row that meets fmt, with fmt's text TOLD by the authors' own Lean function (tested against real Go, not proved from fmt's source: count such statements apart). THE CARD IS WHAT COUNTS. Prove the row's statement (the work); the ties are given (YtgloblokkejgmaaDoorTie.lean); close each card by the builder's one call (the guide's Derived/Test/ToyasCard.lean, 'card_holds'). Laid BY PROGRAM, IN A SANDBOX (cutbox-door.mjs). By AI agents, Wed Nov 11 2026. No macro, syntax, notation, axiom, sorry.
-/
import Derived.Test.YtgloblokkejgmaaDoorRows
import GoSem.ClaimSeven
namespace Go.Proofs.YtgloblokkejgmaaDoor
namespace Rows

/-- THE TIED CARD OF 'pipelinelaw41.SecretValid'. -/
def secretValidCard : Claim7 := { stood := { row := secretValidRow, standIns := [], harness := (true, "e368ddc65dac5cdfdedd7e8c09c68137aca8cb3257a0cb783f3bd930b161d841"), looks := false }, kinds := [], alts := [], laidByText := true, laidKinds := [.data, .pinned], laidTests := true, laidLooks := .later }
def SecretValidCardSaid : Prop := Claim7.holds Tryd.pinned (.plain (OpenSpec.ofChange secretValidSpec)) secretValidCard

/-- THE TIED CARD OF 'pipelinelaw41.SecretPuts'. -/
def secretPutsCard : Claim7 := { stood := { row := secretPutsRow, standIns := [], harness := (true, "e368ddc65dac5cdfdedd7e8c09c68137aca8cb3257a0cb783f3bd930b161d841"), looks := false }, kinds := [], alts := [], laidByText := true, laidKinds := [.data, .pinned], laidTests := true, laidLooks := .later }
def SecretPutsCardSaid : Prop := Claim7.holds Tryd.pinned (.plain (OpenSpec.ofChange secretPutsSpec)) secretPutsCard

/-- THE TIED CARD OF 'pipelinelaw41.SecretOrder'. -/
def secretOrderCard : Claim7 := { stood := { row := secretOrderRow, standIns := [], harness := (true, "e368ddc65dac5cdfdedd7e8c09c68137aca8cb3257a0cb783f3bd930b161d841"), looks := false }, kinds := [], alts := [], laidByText := true, laidKinds := [.data, .pinned], laidTests := true, laidLooks := .later }
def SecretOrderCardSaid : Prop := Claim7.holds Tryd.pinned (.plain (OpenSpec.ofChange secretOrderSpec)) secretOrderCard

/-- THE TIED CARD OF 'pipelinelaw41.SecretMay'. -/
def secretMayCard : Claim7 := { stood := { row := secretMayRow, standIns := [], harness := (true, "e368ddc65dac5cdfdedd7e8c09c68137aca8cb3257a0cb783f3bd930b161d841"), looks := false }, kinds := [], alts := [], laidByText := true, laidKinds := [.data, .pinned], laidTests := true, laidLooks := .later }
def SecretMayCardSaid : Prop := Claim7.holds Tryd.pinned (.plain (OpenSpec.ofChange secretMaySpec)) secretMayCard

/-- THE TIED CARD OF 'pipelinelaw41.SecretVisible'. -/
def secretVisibleCard : Claim7 := { stood := { row := secretVisibleRow, standIns := [], harness := (true, "e368ddc65dac5cdfdedd7e8c09c68137aca8cb3257a0cb783f3bd930b161d841"), looks := false }, kinds := [], alts := [], laidByText := true, laidKinds := [.data, .pinned], laidTests := true, laidLooks := .later }
def SecretVisibleCardSaid : Prop := Claim7.holds Tryd.pinned (.plain (OpenSpec.ofChange secretVisibleSpec)) secretVisibleCard

/-- THE TIED CARD OF 'pipelinelaw41.SecretLevels'. -/
def secretLevelsCard : Claim7 := { stood := { row := secretLevelsRow, standIns := [], harness := (true, "e368ddc65dac5cdfdedd7e8c09c68137aca8cb3257a0cb783f3bd930b161d841"), looks := false }, kinds := [], alts := [], laidByText := true, laidKinds := [.data, .pinned], laidTests := true, laidLooks := .later }
def SecretLevelsCardSaid : Prop := Claim7.holds Tryd.pinned (.plain (OpenSpec.ofChange secretLevelsSpec)) secretLevelsCard

/-- THE SECOND FORM's CARD OF 'pipelinelaw41.SecretValid'. -/
def secretValidUptoCard : Claim7 := { stood := { row := secretValidUptoRow, standIns := [], harness := (true, "e368ddc65dac5cdfdedd7e8c09c68137aca8cb3257a0cb783f3bd930b161d841"), looks := false }, kinds := [], alts := [], laidByText := true, laidKinds := [.data, .pinned], laidTests := true, laidLooks := .later }
def SecretValidUptoCardSaid : Prop := Claim7.holds Tryd.pinned (.plain (OpenSpec.upto secretValidSpec)) secretValidUptoCard

/-- THE SECOND FORM's CARD OF 'pipelinelaw41.SecretPuts'. -/
def secretPutsUptoCard : Claim7 := { stood := { row := secretPutsUptoRow, standIns := [], harness := (true, "e368ddc65dac5cdfdedd7e8c09c68137aca8cb3257a0cb783f3bd930b161d841"), looks := false }, kinds := [], alts := [], laidByText := true, laidKinds := [.data, .pinned], laidTests := true, laidLooks := .later }
def SecretPutsUptoCardSaid : Prop := Claim7.holds Tryd.pinned (.plain (OpenSpec.upto secretPutsSpec)) secretPutsUptoCard

/-- THE SECOND FORM's CARD OF 'pipelinelaw41.SecretOrder'. -/
def secretOrderUptoCard : Claim7 := { stood := { row := secretOrderUptoRow, standIns := [], harness := (true, "e368ddc65dac5cdfdedd7e8c09c68137aca8cb3257a0cb783f3bd930b161d841"), looks := false }, kinds := [], alts := [], laidByText := true, laidKinds := [.data, .pinned], laidTests := true, laidLooks := .later }
def SecretOrderUptoCardSaid : Prop := Claim7.holds Tryd.pinned (.plain (OpenSpec.upto secretOrderSpec)) secretOrderUptoCard

/-- THE SECOND FORM's CARD OF 'pipelinelaw41.SecretMay'. -/
def secretMayUptoCard : Claim7 := { stood := { row := secretMayUptoRow, standIns := [], harness := (true, "e368ddc65dac5cdfdedd7e8c09c68137aca8cb3257a0cb783f3bd930b161d841"), looks := false }, kinds := [], alts := [], laidByText := true, laidKinds := [.data, .pinned], laidTests := true, laidLooks := .later }
def SecretMayUptoCardSaid : Prop := Claim7.holds Tryd.pinned (.plain (OpenSpec.upto secretMaySpec)) secretMayUptoCard

/-- THE SECOND FORM's CARD OF 'pipelinelaw41.SecretVisible'. -/
def secretVisibleUptoCard : Claim7 := { stood := { row := secretVisibleUptoRow, standIns := [], harness := (true, "e368ddc65dac5cdfdedd7e8c09c68137aca8cb3257a0cb783f3bd930b161d841"), looks := false }, kinds := [], alts := [], laidByText := true, laidKinds := [.data, .pinned], laidTests := true, laidLooks := .later }
def SecretVisibleUptoCardSaid : Prop := Claim7.holds Tryd.pinned (.plain (OpenSpec.upto secretVisibleSpec)) secretVisibleUptoCard

/-- THE SECOND FORM's CARD OF 'pipelinelaw41.SecretLevels'. -/
def secretLevelsUptoCard : Claim7 := { stood := { row := secretLevelsUptoRow, standIns := [], harness := (true, "e368ddc65dac5cdfdedd7e8c09c68137aca8cb3257a0cb783f3bd930b161d841"), looks := false }, kinds := [], alts := [], laidByText := true, laidKinds := [.data, .pinned], laidTests := true, laidLooks := .later }
def SecretLevelsUptoCardSaid : Prop := Claim7.holds Tryd.pinned (.plain (OpenSpec.upto secretLevelsSpec)) secretLevelsUptoCard
end Rows
end Go.Proofs.YtgloblokkejgmaaDoor
