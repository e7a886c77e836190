import Derived.Test.YtdgmoplfiodahaaGreatDoorRd
/-! What is drawn of values and truths. -/
namespace Go.Proofs.YtdgmoplfiodahaaGreatDoor
open Go.RowKit
set_option linter.unusedVariables false
set_option linter.unusedSimpArgs false
end Go.Proofs.YtdgmoplfiodahaaGreatDoor
