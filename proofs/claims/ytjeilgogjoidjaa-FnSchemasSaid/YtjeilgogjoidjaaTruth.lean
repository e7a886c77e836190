import Derived.Test.YtjeilgogjoidjaaRun
/-! The truth of an expression. -/
namespace Go.Proofs.Ytjeilgogjoidjaa
open Go.RowKit
set_option linter.unusedVariables false
set_option linter.unusedSimpArgs false
end Go.Proofs.Ytjeilgogjoidjaa
