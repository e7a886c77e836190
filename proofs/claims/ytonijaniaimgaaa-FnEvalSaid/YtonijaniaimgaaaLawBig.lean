import Derived.Test.YtonijaniaimgaaaLib
/-! The laws' own bound on the length of a code. -/
namespace Go.Proofs.Ytonijaniaimgaaa
open Go.RowKit
set_option linter.unusedVariables false
set_option linter.unusedSimpArgs false
theorem big_any {A : Option Addr} {len cap : Nat} (w : World) (hl : len ≤ maxLen) : Calls Try.prog 9 #[.slice A len cap] w (Just w (.bool (decide ((len : Int) > 1048576)))) := by
  unfold maxLen at hl
  go_enter Try.func9, Try.ntmps9
  go_wp2
  go_ret
  exact ⟨ret_bool (by simp), rfl⟩
theorem big_yes {A : Option Addr} {len cap : Nat} (w : World) (hl : len ≤ maxLen) (h : 1048576 < len) : Calls Try.prog 9 #[.slice A len cap] w (Just w (.bool true)) :=
  (big_any w hl).mono fun e w' ⟨he, hw⟩ => ⟨by rw [he, decide_eq_true (by omega)], hw⟩
theorem big_no {A : Option Addr} {len cap : Nat} (w : World) (hl : len ≤ maxLen) (h : ¬ 1048576 < len) : Calls Try.prog 9 #[.slice A len cap] w (Just w (.bool false)) :=
  (big_any w hl).mono fun e w' ⟨he, hw⟩ => ⟨by rw [he, decide_eq_false (by omega)], hw⟩
end Go.Proofs.Ytonijaniaimgaaa
