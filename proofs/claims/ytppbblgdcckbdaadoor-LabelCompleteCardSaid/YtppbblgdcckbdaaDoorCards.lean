/-
  DERIVED. GIVEN WITH THE SEED: THE CARDS: each row of YtppbblgdcckbdaaDoorRows.lean that lists a variable, with what it lists TIED to the program's text (the seventh form; the later family's looks); each row that meets fmt, with fmt's text TOLD by the authors' own Lean function (tested against real Go, not proved from fmt's source: count such statements apart). THE CARD IS WHAT COUNTS. Prove the row's statement (the work); the ties are given (YtppbblgdcckbdaaDoorTie.lean); close each card by the builder's one call (the guide's Derived/Test/ToyasCard.lean, 'card_holds'). Laid BY PROGRAM, IN A SANDBOX (cutbox-door.mjs). By AI agents, Wed Nov 11 2026. No macro, syntax, notation, axiom, sorry.
-/
import Derived.Test.YtppbblgdcckbdaaDoorRows
import GoSem.ClaimSeven
namespace Go.Proofs.YtppbblgdcckbdaaDoor
namespace Rows

/-- THE TIED CARD OF 'pipelinelaw21.LabelValid'. -/
def labelValidCard : Claim7 := { stood := { row := labelValidRow, standIns := [], harness := (true, "b82abb0419708266e17e6e20211f9064bfab11612816dd2da0a61d5585cbc7b2"), looks := false }, kinds := [], alts := [], laidByText := true, laidKinds := [.data, .pinned], laidTests := true, laidLooks := .later }
def LabelValidCardSaid : Prop := Claim7.holds Tryd.pinned (.plain (OpenSpec.ofChange labelValidSpec)) labelValidCard

/-- THE TIED CARD OF 'pipelinelaw21.LabelSatisfies'. -/
def labelSatisfiesCard : Claim7 := { stood := { row := labelSatisfiesRow, standIns := [], harness := (true, "b82abb0419708266e17e6e20211f9064bfab11612816dd2da0a61d5585cbc7b2"), looks := false }, kinds := [], alts := [], laidByText := true, laidKinds := [.data, .pinned], laidTests := true, laidLooks := .later }
def LabelSatisfiesCardSaid : Prop := Claim7.holds Tryd.pinned (.plain (OpenSpec.ofChange labelSatisfiesSpec)) labelSatisfiesCard

/-- THE TIED CARD OF 'pipelinelaw21.LabelImplies'. -/
def labelImpliesCard : Claim7 := { stood := { row := labelImpliesRow, standIns := [], harness := (true, "b82abb0419708266e17e6e20211f9064bfab11612816dd2da0a61d5585cbc7b2"), looks := false }, kinds := [], alts := [], laidByText := true, laidKinds := [.data, .pinned], laidTests := true, laidLooks := .later }
def LabelImpliesCardSaid : Prop := Claim7.holds Tryd.pinned (.plain (OpenSpec.ofChange labelImpliesSpec)) labelImpliesCard

/-- THE TIED CARD OF 'pipelinelaw21.LabelSound'. -/
def labelSoundCard : Claim7 := { stood := { row := labelSoundRow, standIns := [], harness := (true, "b82abb0419708266e17e6e20211f9064bfab11612816dd2da0a61d5585cbc7b2"), looks := false }, kinds := [], alts := [], laidByText := true, laidKinds := [.data, .pinned], laidTests := true, laidLooks := .later }
def LabelSoundCardSaid : Prop := Claim7.holds Tryd.pinned (.plain (OpenSpec.ofChange labelSoundSpec)) labelSoundCard

/-- THE TIED CARD OF 'pipelinelaw21.LabelComplete'. -/
def labelCompleteCard : Claim7 := { stood := { row := labelCompleteRow, standIns := [], harness := (true, "b82abb0419708266e17e6e20211f9064bfab11612816dd2da0a61d5585cbc7b2"), looks := false }, kinds := [], alts := [], laidByText := true, laidKinds := [.data, .pinned], laidTests := true, laidLooks := .later }
def LabelCompleteCardSaid : Prop := Claim7.holds Tryd.pinned (.plain (OpenSpec.ofChange labelCompleteSpec)) labelCompleteCard

/-- THE TIED CARD OF 'pipelinelaw21.LabelOrder'. -/
def labelOrderCard : Claim7 := { stood := { row := labelOrderRow, standIns := [], harness := (true, "b82abb0419708266e17e6e20211f9064bfab11612816dd2da0a61d5585cbc7b2"), looks := false }, kinds := [], alts := [], laidByText := true, laidKinds := [.data, .pinned], laidTests := true, laidLooks := .later }
def LabelOrderCardSaid : Prop := Claim7.holds Tryd.pinned (.plain (OpenSpec.ofChange labelOrderSpec)) labelOrderCard

/-- THE TIED CARD OF 'pipelinelaw21.LabelNeed'. -/
def labelNeedCard : Claim7 := { stood := { row := labelNeedRow, standIns := [], harness := (true, "b82abb0419708266e17e6e20211f9064bfab11612816dd2da0a61d5585cbc7b2"), looks := false }, kinds := [], alts := [], laidByText := true, laidKinds := [.data, .pinned], laidTests := true, laidLooks := .later }
def LabelNeedCardSaid : Prop := Claim7.holds Tryd.pinned (.plain (OpenSpec.ofChange labelNeedSpec)) labelNeedCard

/-- THE SECOND FORM's CARD OF 'pipelinelaw21.LabelValid'. -/
def labelValidUptoCard : Claim7 := { stood := { row := labelValidUptoRow, standIns := [], harness := (true, "b82abb0419708266e17e6e20211f9064bfab11612816dd2da0a61d5585cbc7b2"), looks := false }, kinds := [], alts := [], laidByText := true, laidKinds := [.data, .pinned], laidTests := true, laidLooks := .later }
def LabelValidUptoCardSaid : Prop := Claim7.holds Tryd.pinned (.plain (OpenSpec.upto labelValidSpec)) labelValidUptoCard

/-- THE SECOND FORM's CARD OF 'pipelinelaw21.LabelSatisfies'. -/
def labelSatisfiesUptoCard : Claim7 := { stood := { row := labelSatisfiesUptoRow, standIns := [], harness := (true, "b82abb0419708266e17e6e20211f9064bfab11612816dd2da0a61d5585cbc7b2"), looks := false }, kinds := [], alts := [], laidByText := true, laidKinds := [.data, .pinned], laidTests := true, laidLooks := .later }
def LabelSatisfiesUptoCardSaid : Prop := Claim7.holds Tryd.pinned (.plain (OpenSpec.upto labelSatisfiesSpec)) labelSatisfiesUptoCard

/-- THE SECOND FORM's CARD OF 'pipelinelaw21.LabelImplies'. -/
def labelImpliesUptoCard : Claim7 := { stood := { row := labelImpliesUptoRow, standIns := [], harness := (true, "b82abb0419708266e17e6e20211f9064bfab11612816dd2da0a61d5585cbc7b2"), looks := false }, kinds := [], alts := [], laidByText := true, laidKinds := [.data, .pinned], laidTests := true, laidLooks := .later }
def LabelImpliesUptoCardSaid : Prop := Claim7.holds Tryd.pinned (.plain (OpenSpec.upto labelImpliesSpec)) labelImpliesUptoCard

/-- THE SECOND FORM's CARD OF 'pipelinelaw21.LabelSound'. -/
def labelSoundUptoCard : Claim7 := { stood := { row := labelSoundUptoRow, standIns := [], harness := (true, "b82abb0419708266e17e6e20211f9064bfab11612816dd2da0a61d5585cbc7b2"), looks := false }, kinds := [], alts := [], laidByText := true, laidKinds := [.data, .pinned], laidTests := true, laidLooks := .later }
def LabelSoundUptoCardSaid : Prop := Claim7.holds Tryd.pinned (.plain (OpenSpec.upto labelSoundSpec)) labelSoundUptoCard

/-- THE SECOND FORM's CARD OF 'pipelinelaw21.LabelComplete'. -/
def labelCompleteUptoCard : Claim7 := { stood := { row := labelCompleteUptoRow, standIns := [], harness := (true, "b82abb0419708266e17e6e20211f9064bfab11612816dd2da0a61d5585cbc7b2"), looks := false }, kinds := [], alts := [], laidByText := true, laidKinds := [.data, .pinned], laidTests := true, laidLooks := .later }
def LabelCompleteUptoCardSaid : Prop := Claim7.holds Tryd.pinned (.plain (OpenSpec.upto labelCompleteSpec)) labelCompleteUptoCard

/-- THE SECOND FORM's CARD OF 'pipelinelaw21.LabelOrder'. -/
def labelOrderUptoCard : Claim7 := { stood := { row := labelOrderUptoRow, standIns := [], harness := (true, "b82abb0419708266e17e6e20211f9064bfab11612816dd2da0a61d5585cbc7b2"), looks := false }, kinds := [], alts := [], laidByText := true, laidKinds := [.data, .pinned], laidTests := true, laidLooks := .later }
def LabelOrderUptoCardSaid : Prop := Claim7.holds Tryd.pinned (.plain (OpenSpec.upto labelOrderSpec)) labelOrderUptoCard

/-- THE SECOND FORM's CARD OF 'pipelinelaw21.LabelNeed'. -/
def labelNeedUptoCard : Claim7 := { stood := { row := labelNeedUptoRow, standIns := [], harness := (true, "b82abb0419708266e17e6e20211f9064bfab11612816dd2da0a61d5585cbc7b2"), looks := false }, kinds := [], alts := [], laidByText := true, laidKinds := [.data, .pinned], laidTests := true, laidLooks := .later }
def LabelNeedUptoCardSaid : Prop := Claim7.holds Tryd.pinned (.plain (OpenSpec.upto labelNeedSpec)) labelNeedUptoCard
end Rows
end Go.Proofs.YtppbblgdcckbdaaDoor
