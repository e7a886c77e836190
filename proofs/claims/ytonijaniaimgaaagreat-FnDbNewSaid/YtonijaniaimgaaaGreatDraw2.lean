import Derived.Test.YtonijaniaimgaaaGreatOwn
/-! What is drawn of expressions and rows of values. -/
namespace Go.Proofs.YtonijaniaimgaaaGreat
open Go.RowKit
set_option linter.unusedVariables false
set_option linter.unusedSimpArgs false
/-- A slice of one's own is handed back, of which P is true; the reader has gone on. -/
def RdSl {α : Type} (k : Kd α) (E : TypeId) (g : Nat) (w : World) (P : List α → Prop) (e : Ending) (w' : World) : Prop :=
  ∃ (A : Option Addr) (n c : Nat) (xs : List α), e = .returned (.slice A n c) ∧ OwnG k E w.heap.size w' A n c xs ∧ P xs ∧ GrowX g w w' ∧ IsRd w' g
theorem pow_one_le (d : Nat) : 1 + 1 ≤ 2 ^ (d + 1 + 1) := by rw [Nat.pow_succ, Nat.pow_succ]; have := Nat.one_le_two_pow (n := d); omega
theorem l2Col_any (n : Int) (w : World) : Calls Tryz.prog 131 #[.int .i64 n] w (Ret w (.agg #[.int .i64 1, .int .i64 n, .int .i64 0, .int .i64 0, .string ⟨#[]⟩])) := by
  go_enter Tryz.func131, Tryz.ntmps131
  go_wp2
  refine bodyPost_ret (v := .agg #[.int .i64 1, .int .i64 n, .int .i64 0, .int .i64 0, .string ⟨#[]⟩]) (by simp [results, Tryz.results131, go_sem]) rfl ⟨rfl, (Grow.refl _).alloc _⟩
theorem l2Const_any (k n : Int) (s : ByteArray) (w : World) : Calls Tryz.prog 132 #[.agg #[.int .i64 k, .int .i64 n, .string s]] w (Ret w (.agg #[.int .i64 2, .int .i64 0, .int .i64 k, .int .i64 n, .string s])) := by
  go_enter Tryz.func132, Tryz.ntmps132
  go_wp2
  refine bodyPost_ret (v := .agg #[.int .i64 2, .int .i64 0, .int .i64 k, .int .i64 n, .string s]) (by simp [results, Tryz.results132, go_sem]) rfl ⟨rfl, (by repeat (with_reducible first | exact Grow.refl _ | assumption | refine Grow.drew ?_ | refine Grow.alloc ?_ _ | refine Grow.set ?_ (by first | exact Nat.le_refl _ | (simp; done) | (simp; omega) | omega) _ | exact And.left (by assumption) | refine Grow.trans ?_ (by assumption)))⟩
end Go.Proofs.YtonijaniaimgaaaGreat
