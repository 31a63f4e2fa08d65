/- Joined: JnE. -/
import Derived.Test.YtgdapkglofchjaaGreatDoorE21
set_option maxRecDepth 100000
set_option maxHeartbeats 200000
set_option linter.unusedVariables false
namespace Go.Proofs.YtgdapkglofchjaaGreatDoor
open Go.RowKit
theorem eqF_refl (f : Flds) : eqF f f = true := (eqF_iff f f).2 rfl
end Go.Proofs.YtgdapkglofchjaaGreatDoor
