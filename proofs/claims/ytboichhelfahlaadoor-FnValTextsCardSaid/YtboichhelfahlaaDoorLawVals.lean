import Derived.Test.YtboichhelfahlaaDoorKd
/-! The laws' own functions over values. -/
namespace Go.Proofs.YtboichhelfahlaaDoor
open Go.RowKit
set_option linter.unusedVariables false
set_option linter.unusedSimpArgs false

def szn (left : Int) (n : Nat) : Int := if left - n < 0 then -1 else left - n
theorem szn_le (n : Nat) : szn 1048576 n ≤ 1048576 := by unfold szn; split <;> omega
theorem szVal_any (k n : Int) (s : ByteArray) (left : Int) (w : World) (h0 : 0 ≤ left) (h1 : left ≤ 1048576) (hs : s.size ≤ maxLen) :
    Calls Tryd.prog 7 #[.agg #[.int .i64 k, .int .i64 n, .string s], .int .i64 left] w (Ret w (.int .i64 (szn left s.size))) := by
  unfold maxLen at hs
  go_enter Tryd.func7, Tryd.ntmps7
  go_wp2
  all_goals go_ret
  all_goals refine ⟨ret_int ?_, (Grow.refl _).alloc _⟩
  all_goals simp_all [szn]
  all_goals omega
theorem toVal_any (k n : Int) (s : ByteArray) (w : World) :
    Calls Tryd.prog 9 #[.agg #[.int .i64 k, .int .i64 n, .string s]] w (Ret w (.agg #[.int .i64 k, .int .i64 n, .string s])) := by
  go_enter Tryd.func9, Tryd.ntmps9
  go_wp2
  refine bodyPost_ret (v := .agg #[.int .i64 k, .int .i64 n, .string s]) (by simp [results, Tryd.results9, go_sem]) rfl ⟨rfl, (((Grow.refl _).alloc _).alloc _).alloc _⟩
end Go.Proofs.YtboichhelfahlaaDoor
