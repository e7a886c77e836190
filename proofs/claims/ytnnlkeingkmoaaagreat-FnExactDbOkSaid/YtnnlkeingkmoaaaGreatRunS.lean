import Derived.Test.YtnnlkeingkmoaaaGreatRun
/-! Evaluation, as the reference does it. -/
namespace Go.Proofs.YtnnlkeingkmoaaaGreat
open Go.RowKit
set_option linter.unusedVariables false
set_option linter.unusedSimpArgs false
def ofT (v : Val) : Int := if v.kind = 0 then 2 else if v.kind = 1 then (if v.n = 0 then 0 else 1) else 0
def ofOk (v : Val) : Bool := decide (v.kind = 0) || decide (v.kind = 1)
def asV (t : Int) : Val := if t = 2 then vNull else vInt t
theorem truthV_of {v : Val} : truthV v = if ofOk v then ofT v else -1 := by
  unfold truthV ofOk ofT
  by_cases h0 : v.kind = 0
  · simp [h0]
  · by_cases h1 : v.kind = 1 <;> simp [h0, h1]
theorem ofT_in (v : Val) : ofT v = 0 ∨ ofT v = 1 ∨ ofT v = 2 := by unfold ofT; split <;> (try split) <;> (try split) <;> omega
theorem valT_as {t : Int} (h : t = 0 ∨ t = 1 ∨ t = 2) : valT t = some (asV t) := by rcases h with rfl | rfl | rfl <;> rfl
theorem eq3_pos (a b : Val) : eq3 a b = 0 ∨ eq3 a b = 1 ∨ eq3 a b = 2 := by unfold eq3; split <;> (try split) <;> omega
theorem less3_pos (a b : Val) : less3 a b = 0 ∨ less3 a b = 1 ∨ less3 a b = 2 := by unfold less3; split <;> (try split) <;> omega
theorem l1IntV_any (n : Int) (w : World) : Calls Tryz.prog 53 #[.int .i64 n] w (Ret w (.agg #[.int .i64 1, .int .i64 n, .string ⟨#[]⟩])) := by
  go_enter Tryz.func53, Tryz.ntmps53
  go_wp2
  refine bodyPost_ret (v := .agg #[.int .i64 1, .int .i64 n, .string ⟨#[]⟩]) (by simp [results, Tryz.results53, go_sem]) rfl ⟨rfl, (Grow.refl _).alloc _⟩
end Go.Proofs.YtnnlkeingkmoaaaGreat
