/-
  DERIVED. GIVEN WITH THE SEED: THE CARDS: each row of YtgcpffbaejodiaaDoorRows.lean that lists a variable, with what it lists TIED to the program's text (the seventh form; the later family's looks); each row that meets fmt, with fmt's text TOLD by the authors' own Lean function (tested against real Go, not proved from fmt's source: count such statements apart). THE CARD IS WHAT COUNTS. Prove the row's statement (the work); the ties are given (YtgcpffbaejodiaaDoorTie.lean); close each card by the builder's one call (the guide's Derived/Test/ToyasCard.lean, 'card_holds'). Laid BY PROGRAM, IN A SANDBOX (cutbox-door.mjs). By AI agents, Wed Nov 11 2026. No macro, syntax, notation, axiom, sorry.
-/
import Derived.Test.YtgcpffbaejodiaaDoorRows
import GoSem.ClaimSeven
namespace Go.Proofs.YtgcpffbaejodiaaDoor
namespace Rows

/-- THE TIED CARD OF 'pipelinelaw08.TypingValid'. -/
def typingValidCard : Claim7 := { stood := { row := typingValidRow, standIns := [], harness := (true, "ffe710cbb777161c764fe2ecc239dfb87be5400ffce59aea0987125a2fe921d0"), looks := false }, kinds := [], alts := [], laidByText := true, laidKinds := [.data, .pinned], laidTests := true, laidLooks := .later }
def TypingValidCardSaid : Prop := Claim7.holds Tryd.pinned (.plain (OpenSpec.ofChange typingValidSpec)) typingValidCard

/-- THE TIED CARD OF 'pipelinelaw08.TypingOf'. -/
def typingOfCard : Claim7 := { stood := { row := typingOfRow, standIns := [], harness := (true, "ffe710cbb777161c764fe2ecc239dfb87be5400ffce59aea0987125a2fe921d0"), looks := false }, kinds := [], alts := [], laidByText := true, laidKinds := [.data, .pinned], laidTests := true, laidLooks := .later }
def TypingOfCardSaid : Prop := Claim7.holds Tryd.pinned (.plain (OpenSpec.ofChange typingOfSpec)) typingOfCard

/-- THE TIED CARD OF 'pipelinelaw08.TypingBounds'. -/
def typingBoundsCard : Claim7 := { stood := { row := typingBoundsRow, standIns := [], harness := (true, "ffe710cbb777161c764fe2ecc239dfb87be5400ffce59aea0987125a2fe921d0"), looks := false }, kinds := [], alts := [], laidByText := true, laidKinds := [.data, .pinned], laidTests := true, laidLooks := .later }
def TypingBoundsCardSaid : Prop := Claim7.holds Tryd.pinned (.plain (OpenSpec.ofChange typingBoundsSpec)) typingBoundsCard

/-- THE TIED CARD OF 'pipelinelaw08.TypingLattice'. -/
def typingLatticeCard : Claim7 := { stood := { row := typingLatticeRow, standIns := [], harness := (true, "ffe710cbb777161c764fe2ecc239dfb87be5400ffce59aea0987125a2fe921d0"), looks := false }, kinds := [], alts := [], laidByText := true, laidKinds := [.data, .pinned], laidTests := true, laidLooks := .later }
def TypingLatticeCardSaid : Prop := Claim7.holds Tryd.pinned (.plain (OpenSpec.ofChange typingLatticeSpec)) typingLatticeCard

/-- THE TIED CARD OF 'pipelinelaw08.TypingElements'. -/
def typingElementsCard : Claim7 := { stood := { row := typingElementsRow, standIns := [], harness := (true, "ffe710cbb777161c764fe2ecc239dfb87be5400ffce59aea0987125a2fe921d0"), looks := false }, kinds := [], alts := [], laidByText := true, laidKinds := [.data, .pinned], laidTests := true, laidLooks := .later }
def TypingElementsCardSaid : Prop := Claim7.holds Tryd.pinned (.plain (OpenSpec.ofChange typingElementsSpec)) typingElementsCard

/-- THE TIED CARD OF 'pipelinelaw08.TypingText'. -/
def typingTextCard : Claim7 := { stood := { row := typingTextRow, standIns := [], harness := (true, "ffe710cbb777161c764fe2ecc239dfb87be5400ffce59aea0987125a2fe921d0"), looks := false }, kinds := [], alts := [], laidByText := true, laidKinds := [.data, .pinned], laidTests := true, laidLooks := .later }
def TypingTextCardSaid : Prop := Claim7.holds Tryd.pinned (.plain (OpenSpec.ofChange typingTextSpec)) typingTextCard

/-- THE TIED CARD OF 'pipelinelaw08.TypingBack'. -/
def typingBackCard : Claim7 := { stood := { row := typingBackRow, standIns := [], harness := (true, "ffe710cbb777161c764fe2ecc239dfb87be5400ffce59aea0987125a2fe921d0"), looks := false }, kinds := [], alts := [], laidByText := true, laidKinds := [.data, .pinned], laidTests := true, laidLooks := .later }
def TypingBackCardSaid : Prop := Claim7.holds Tryd.pinned (.plain (OpenSpec.ofChange typingBackSpec)) typingBackCard

/-- THE TIED CARD OF 'pipelinelaw08.TypingNests'. -/
def typingNestsCard : Claim7 := { stood := { row := typingNestsRow, standIns := [], harness := (true, "ffe710cbb777161c764fe2ecc239dfb87be5400ffce59aea0987125a2fe921d0"), looks := false }, kinds := [], alts := [], laidByText := true, laidKinds := [.data, .pinned], laidTests := true, laidLooks := .later }
def TypingNestsCardSaid : Prop := Claim7.holds Tryd.pinned (.plain (OpenSpec.ofChange typingNestsSpec)) typingNestsCard

/-- THE SECOND FORM's CARD OF 'pipelinelaw08.TypingValid'. -/
def typingValidUptoCard : Claim7 := { stood := { row := typingValidUptoRow, standIns := [], harness := (true, "ffe710cbb777161c764fe2ecc239dfb87be5400ffce59aea0987125a2fe921d0"), looks := false }, kinds := [], alts := [], laidByText := true, laidKinds := [.data, .pinned], laidTests := true, laidLooks := .later }
def TypingValidUptoCardSaid : Prop := Claim7.holds Tryd.pinned (.plain (OpenSpec.upto typingValidSpec)) typingValidUptoCard

/-- THE SECOND FORM's CARD OF 'pipelinelaw08.TypingOf'. -/
def typingOfUptoCard : Claim7 := { stood := { row := typingOfUptoRow, standIns := [], harness := (true, "ffe710cbb777161c764fe2ecc239dfb87be5400ffce59aea0987125a2fe921d0"), looks := false }, kinds := [], alts := [], laidByText := true, laidKinds := [.data, .pinned], laidTests := true, laidLooks := .later }
def TypingOfUptoCardSaid : Prop := Claim7.holds Tryd.pinned (.plain (OpenSpec.upto typingOfSpec)) typingOfUptoCard

/-- THE SECOND FORM's CARD OF 'pipelinelaw08.TypingBounds'. -/
def typingBoundsUptoCard : Claim7 := { stood := { row := typingBoundsUptoRow, standIns := [], harness := (true, "ffe710cbb777161c764fe2ecc239dfb87be5400ffce59aea0987125a2fe921d0"), looks := false }, kinds := [], alts := [], laidByText := true, laidKinds := [.data, .pinned], laidTests := true, laidLooks := .later }
def TypingBoundsUptoCardSaid : Prop := Claim7.holds Tryd.pinned (.plain (OpenSpec.upto typingBoundsSpec)) typingBoundsUptoCard

/-- THE SECOND FORM's CARD OF 'pipelinelaw08.TypingLattice'. -/
def typingLatticeUptoCard : Claim7 := { stood := { row := typingLatticeUptoRow, standIns := [], harness := (true, "ffe710cbb777161c764fe2ecc239dfb87be5400ffce59aea0987125a2fe921d0"), looks := false }, kinds := [], alts := [], laidByText := true, laidKinds := [.data, .pinned], laidTests := true, laidLooks := .later }
def TypingLatticeUptoCardSaid : Prop := Claim7.holds Tryd.pinned (.plain (OpenSpec.upto typingLatticeSpec)) typingLatticeUptoCard

/-- THE SECOND FORM's CARD OF 'pipelinelaw08.TypingElements'. -/
def typingElementsUptoCard : Claim7 := { stood := { row := typingElementsUptoRow, standIns := [], harness := (true, "ffe710cbb777161c764fe2ecc239dfb87be5400ffce59aea0987125a2fe921d0"), looks := false }, kinds := [], alts := [], laidByText := true, laidKinds := [.data, .pinned], laidTests := true, laidLooks := .later }
def TypingElementsUptoCardSaid : Prop := Claim7.holds Tryd.pinned (.plain (OpenSpec.upto typingElementsSpec)) typingElementsUptoCard

/-- THE SECOND FORM's CARD OF 'pipelinelaw08.TypingText'. -/
def typingTextUptoCard : Claim7 := { stood := { row := typingTextUptoRow, standIns := [], harness := (true, "ffe710cbb777161c764fe2ecc239dfb87be5400ffce59aea0987125a2fe921d0"), looks := false }, kinds := [], alts := [], laidByText := true, laidKinds := [.data, .pinned], laidTests := true, laidLooks := .later }
def TypingTextUptoCardSaid : Prop := Claim7.holds Tryd.pinned (.plain (OpenSpec.upto typingTextSpec)) typingTextUptoCard

/-- THE SECOND FORM's CARD OF 'pipelinelaw08.TypingBack'. -/
def typingBackUptoCard : Claim7 := { stood := { row := typingBackUptoRow, standIns := [], harness := (true, "ffe710cbb777161c764fe2ecc239dfb87be5400ffce59aea0987125a2fe921d0"), looks := false }, kinds := [], alts := [], laidByText := true, laidKinds := [.data, .pinned], laidTests := true, laidLooks := .later }
def TypingBackUptoCardSaid : Prop := Claim7.holds Tryd.pinned (.plain (OpenSpec.upto typingBackSpec)) typingBackUptoCard

/-- THE SECOND FORM's CARD OF 'pipelinelaw08.TypingNests'. -/
def typingNestsUptoCard : Claim7 := { stood := { row := typingNestsUptoRow, standIns := [], harness := (true, "ffe710cbb777161c764fe2ecc239dfb87be5400ffce59aea0987125a2fe921d0"), looks := false }, kinds := [], alts := [], laidByText := true, laidKinds := [.data, .pinned], laidTests := true, laidLooks := .later }
def TypingNestsUptoCardSaid : Prop := Claim7.holds Tryd.pinned (.plain (OpenSpec.upto typingNestsSpec)) typingNestsUptoCard
end Rows
end Go.Proofs.YtgcpffbaejodiaaDoor
