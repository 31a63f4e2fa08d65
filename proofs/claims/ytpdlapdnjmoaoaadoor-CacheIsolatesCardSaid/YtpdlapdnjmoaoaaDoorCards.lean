/-
  DERIVED. GIVEN WITH THE SEED: THE CARDS: each row of YtpdlapdnjmoaoaaDoorRows.lean that lists a variable, with what it lists TIED to the program's text (the seventh form; the later family's looks); each row that meets fmt, with fmt's text TOLD by the authors' own Lean function (tested against real Go, not proved from fmt's source: count such statements apart). THE CARD IS WHAT COUNTS. Prove the row's statement (the work); the ties are given (YtpdlapdnjmoaoaaDoorTie.lean); close each card by the builder's one call (the guide's Derived/Test/ToyasCard.lean, 'card_holds'). Laid BY PROGRAM, IN A SANDBOX (cutbox-door.mjs). By AI agents, Wed Nov 11 2026. No macro, syntax, notation, axiom, sorry.
-/
import Derived.Test.YtpdlapdnjmoaoaaDoorRows
import GoSem.ClaimSeven
namespace Go.Proofs.YtpdlapdnjmoaoaaDoor
namespace Rows

/-- THE TIED CARD OF 'pipelinelaw33.CacheValid'. -/
def cacheValidCard : Claim7 := { stood := { row := cacheValidRow, standIns := [], harness := (true, "f618e1b38753a8ddece1a6f29da205a203e81020e632df616b23db858f8a6940"), looks := false }, kinds := [], alts := [], laidByText := true, laidKinds := [.data, .pinned], laidTests := true, laidLooks := .later }
def CacheValidCardSaid : Prop := Claim7.holds Tryd.pinned (.plain (OpenSpec.ofChange cacheValidSpec)) cacheValidCard

/-- THE TIED CARD OF 'pipelinelaw33.CacheNew'. -/
def cacheNewCard : Claim7 := { stood := { row := cacheNewRow, standIns := [], harness := (true, "f618e1b38753a8ddece1a6f29da205a203e81020e632df616b23db858f8a6940"), looks := false }, kinds := [], alts := [], laidByText := true, laidKinds := [.data, .pinned], laidTests := true, laidLooks := .later }
def CacheNewCardSaid : Prop := Claim7.holds Tryd.pinned (.plain (OpenSpec.ofChange cacheNewSpec)) cacheNewCard

/-- THE TIED CARD OF 'pipelinelaw33.CacheSaves'. -/
def cacheSavesCard : Claim7 := { stood := { row := cacheSavesRow, standIns := [], harness := (true, "f618e1b38753a8ddece1a6f29da205a203e81020e632df616b23db858f8a6940"), looks := false }, kinds := [], alts := [], laidByText := true, laidKinds := [.data, .pinned], laidTests := true, laidLooks := .later }
def CacheSavesCardSaid : Prop := Claim7.holds Tryd.pinned (.plain (OpenSpec.ofChange cacheSavesSpec)) cacheSavesCard

/-- THE TIED CARD OF 'pipelinelaw33.CacheFull'. -/
def cacheFullCard : Claim7 := { stood := { row := cacheFullRow, standIns := [], harness := (true, "f618e1b38753a8ddece1a6f29da205a203e81020e632df616b23db858f8a6940"), looks := false }, kinds := [], alts := [], laidByText := true, laidKinds := [.data, .pinned], laidTests := true, laidLooks := .later }
def CacheFullCardSaid : Prop := Claim7.holds Tryd.pinned (.plain (OpenSpec.ofChange cacheFullSpec)) cacheFullCard

/-- THE TIED CARD OF 'pipelinelaw33.CacheRestores'. -/
def cacheRestoresCard : Claim7 := { stood := { row := cacheRestoresRow, standIns := [], harness := (true, "f618e1b38753a8ddece1a6f29da205a203e81020e632df616b23db858f8a6940"), looks := false }, kinds := [], alts := [], laidByText := true, laidKinds := [.data, .pinned], laidTests := true, laidLooks := .later }
def CacheRestoresCardSaid : Prop := Claim7.holds Tryd.pinned (.plain (OpenSpec.ofChange cacheRestoresSpec)) cacheRestoresCard

/-- THE TIED CARD OF 'pipelinelaw33.CacheReads'. -/
def cacheReadsCard : Claim7 := { stood := { row := cacheReadsRow, standIns := [], harness := (true, "f618e1b38753a8ddece1a6f29da205a203e81020e632df616b23db858f8a6940"), looks := false }, kinds := [], alts := [], laidByText := true, laidKinds := [.data, .pinned], laidTests := true, laidLooks := .later }
def CacheReadsCardSaid : Prop := Claim7.holds Tryd.pinned (.plain (OpenSpec.ofChange cacheReadsSpec)) cacheReadsCard

/-- THE TIED CARD OF 'pipelinelaw33.CacheIsolates'. -/
def cacheIsolatesCard : Claim7 := { stood := { row := cacheIsolatesRow, standIns := [], harness := (true, "f618e1b38753a8ddece1a6f29da205a203e81020e632df616b23db858f8a6940"), looks := false }, kinds := [], alts := [], laidByText := true, laidKinds := [.data, .pinned], laidTests := true, laidLooks := .later }
def CacheIsolatesCardSaid : Prop := Claim7.holds Tryd.pinned (.plain (OpenSpec.ofChange cacheIsolatesSpec)) cacheIsolatesCard

/-- THE SECOND FORM's CARD OF 'pipelinelaw33.CacheValid'. -/
def cacheValidUptoCard : Claim7 := { stood := { row := cacheValidUptoRow, standIns := [], harness := (true, "f618e1b38753a8ddece1a6f29da205a203e81020e632df616b23db858f8a6940"), looks := false }, kinds := [], alts := [], laidByText := true, laidKinds := [.data, .pinned], laidTests := true, laidLooks := .later }
def CacheValidUptoCardSaid : Prop := Claim7.holds Tryd.pinned (.plain (OpenSpec.upto cacheValidSpec)) cacheValidUptoCard

/-- THE SECOND FORM's CARD OF 'pipelinelaw33.CacheNew'. -/
def cacheNewUptoCard : Claim7 := { stood := { row := cacheNewUptoRow, standIns := [], harness := (true, "f618e1b38753a8ddece1a6f29da205a203e81020e632df616b23db858f8a6940"), looks := false }, kinds := [], alts := [], laidByText := true, laidKinds := [.data, .pinned], laidTests := true, laidLooks := .later }
def CacheNewUptoCardSaid : Prop := Claim7.holds Tryd.pinned (.plain (OpenSpec.upto cacheNewSpec)) cacheNewUptoCard

/-- THE SECOND FORM's CARD OF 'pipelinelaw33.CacheSaves'. -/
def cacheSavesUptoCard : Claim7 := { stood := { row := cacheSavesUptoRow, standIns := [], harness := (true, "f618e1b38753a8ddece1a6f29da205a203e81020e632df616b23db858f8a6940"), looks := false }, kinds := [], alts := [], laidByText := true, laidKinds := [.data, .pinned], laidTests := true, laidLooks := .later }
def CacheSavesUptoCardSaid : Prop := Claim7.holds Tryd.pinned (.plain (OpenSpec.upto cacheSavesSpec)) cacheSavesUptoCard

/-- THE SECOND FORM's CARD OF 'pipelinelaw33.CacheFull'. -/
def cacheFullUptoCard : Claim7 := { stood := { row := cacheFullUptoRow, standIns := [], harness := (true, "f618e1b38753a8ddece1a6f29da205a203e81020e632df616b23db858f8a6940"), looks := false }, kinds := [], alts := [], laidByText := true, laidKinds := [.data, .pinned], laidTests := true, laidLooks := .later }
def CacheFullUptoCardSaid : Prop := Claim7.holds Tryd.pinned (.plain (OpenSpec.upto cacheFullSpec)) cacheFullUptoCard

/-- THE SECOND FORM's CARD OF 'pipelinelaw33.CacheRestores'. -/
def cacheRestoresUptoCard : Claim7 := { stood := { row := cacheRestoresUptoRow, standIns := [], harness := (true, "f618e1b38753a8ddece1a6f29da205a203e81020e632df616b23db858f8a6940"), looks := false }, kinds := [], alts := [], laidByText := true, laidKinds := [.data, .pinned], laidTests := true, laidLooks := .later }
def CacheRestoresUptoCardSaid : Prop := Claim7.holds Tryd.pinned (.plain (OpenSpec.upto cacheRestoresSpec)) cacheRestoresUptoCard

/-- THE SECOND FORM's CARD OF 'pipelinelaw33.CacheReads'. -/
def cacheReadsUptoCard : Claim7 := { stood := { row := cacheReadsUptoRow, standIns := [], harness := (true, "f618e1b38753a8ddece1a6f29da205a203e81020e632df616b23db858f8a6940"), looks := false }, kinds := [], alts := [], laidByText := true, laidKinds := [.data, .pinned], laidTests := true, laidLooks := .later }
def CacheReadsUptoCardSaid : Prop := Claim7.holds Tryd.pinned (.plain (OpenSpec.upto cacheReadsSpec)) cacheReadsUptoCard

/-- THE SECOND FORM's CARD OF 'pipelinelaw33.CacheIsolates'. -/
def cacheIsolatesUptoCard : Claim7 := { stood := { row := cacheIsolatesUptoRow, standIns := [], harness := (true, "f618e1b38753a8ddece1a6f29da205a203e81020e632df616b23db858f8a6940"), looks := false }, kinds := [], alts := [], laidByText := true, laidKinds := [.data, .pinned], laidTests := true, laidLooks := .later }
def CacheIsolatesUptoCardSaid : Prop := Claim7.holds Tryd.pinned (.plain (OpenSpec.upto cacheIsolatesSpec)) cacheIsolatesUptoCard
end Rows
end Go.Proofs.YtpdlapdnjmoaoaaDoor
