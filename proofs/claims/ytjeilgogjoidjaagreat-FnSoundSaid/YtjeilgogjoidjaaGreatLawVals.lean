import Derived.Test.YtjeilgogjoidjaaGreatKd
/-! The laws' own functions over values. -/
namespace Go.Proofs.YtjeilgogjoidjaaGreat
open Go.RowKit
set_option linter.unusedVariables false
set_option linter.unusedSimpArgs false

def szn (left : Int) (n : Nat) : Int := if left - n < 0 then -1 else left - n
theorem szn_le (n : Nat) : szn 1048576 n ≤ 1048576 := by unfold szn; split <;> omega
