import Derived.Test.YtnnlkeingkmoaaaGreatRunS
import Derived.Test.YtnnlkeingkmoaaaGreatApp
import Derived.Deep.DeepCutAuto
import Derived.Deep.CutBlock
/-! Evaluation, as the reference does it: the run over a stack. -/
namespace Go.Proofs.YtnnlkeingkmoaaaGreat
open Go.RowKit
set_option linter.unusedVariables false
set_option linter.unusedSimpArgs false
theorem isTokB_kind {x : Tok} {n : Int} (h : isTokB x n = true) : x.kind = 1 ∨ x.kind = 2 ∨ x.kind = 8 ∨ x.kind = 7 ∨ (x.kind = 3 ∨ x.kind = 4 ∨ x.kind = 5 ∨ x.kind = 6 ∨ x.kind = 9 ∨ x.kind = 10) := by
  unfold isTokB at h
  split at h
  · omega
  · split at h
    · omega
    · simp [inB] at h; omega
/-- What the switch leaves: the value in block g, or that there is none. -/
def StepRes (wr wx : World) (g : Nat) (o : Option Val) (d : Nat) (ok dr : Value) : Prop :=
  ∃ u : Val, Grow wr wx ∧ wx.heap[g]? = some (.cells #[.int .i64 u.kind, .int .i64 u.n, .string u.s] 96 (0, 0)) ∧
    ((o = some u ∧ ok = .bool true ∧ dr = .int .i64 d) ∨ (o = none ∧ ok = .bool false))
theorem step_put {wr V : World} {g : Nat} {z0 z1 z2 : Value} {T : TypeId} (hg : Grow wr V) (h : V.heap[g]? = some (.cells #[z0, z1, z2] T (0, 0))) (hB : wr.heap.size ≤ g) (a b s : Value) :
    Grow wr (((V.setCell ⟨g, 0, none⟩ a).setCell ⟨g, 1, none⟩ b).setCell ⟨g, 2, none⟩ s) ∧ (((V.setCell ⟨g, 0, none⟩ a).setCell ⟨g, 1, none⟩ b).setCell ⟨g, 2, none⟩ s).heap[g]? = some (.cells #[a, b, s] T (0, 0)) :=
  ⟨setL_grow hg hB 0 [a, b, s], setL_own h 0 [a, b, s]⟩
theorem stepRes_some {wr V : World} {g : Nat} {z0 z1 z2 : Value} {o : Option Val} {d : Nat} (u : Val) (hg : Grow wr V) (h : V.heap[g]? = some (.cells #[z0, z1, z2] 96 (0, 0))) (hB : wr.heap.size ≤ g) (ho : o = some u) :
    StepRes wr (((V.setCell ⟨g, 0, none⟩ (.int .i64 u.kind)).setCell ⟨g, 1, none⟩ (.int .i64 u.n)).setCell ⟨g, 2, none⟩ (.string u.s)) g o d (.bool true) (.int .i64 d) :=
  ⟨u, (step_put hg h hB _ _ _).1, (step_put hg h hB _ _ _).2, .inl ⟨ho, rfl, rfl⟩⟩
theorem stepRes_none {wr V : World} {g : Nat} {z0 z1 z2 dr : Value} {o : Option Val} {d : Nat} (k n : Int) (s : ByteArray) (hg : Grow wr V) (h : V.heap[g]? = some (.cells #[z0, z1, z2] 96 (0, 0))) (hB : wr.heap.size ≤ g) (ho : o = none) :
    StepRes wr (((V.setCell ⟨g, 0, none⟩ (.int .i64 k)).setCell ⟨g, 1, none⟩ (.int .i64 n)).setCell ⟨g, 2, none⟩ (.string s)) g o d (.bool false) dr :=
  ⟨⟨k, n, s⟩, (step_put hg h hB _ _ _).1, (step_put hg h hB _ _ _).2, .inr ⟨ho, rfl⟩⟩
theorem evRel_next {W w' : World} {la lb : Nat} {e : List Tok} {row : List Val} {k n f c : Nat} {A : Option Addr} {xs st : List Val} (own : OwnF Kd.val 96 W w' A n c xs) (hn : n = f + 1) (hx : xs = st) (hk : k + 1 ≤ la) (hl : f + 1 ≤ k + 1)
    (hr : runV row (e.take (k + 1)) = some st) (hx2 : exprRun lb (e.take (k + 1)) = some (st.length : Int)) (hok : ∀ v ∈ st, okB v = true) : evRel W la lb e row (.slice A n c) (.int .i64 ((k + 1 : Nat) : Int)) w' := by
  subst hn hx
  obtain ⟨p, rfl⟩ := own.there (by omega)
  obtain ⟨rows, q1, q2, q3, q4⟩ := own
  exact ⟨k + 1, xs, p, f + 1, c, rows, hk, hl, rfl, rfl, q1, q2, q3, hr, hx2, hok, q4⟩
end Go.Proofs.YtnnlkeingkmoaaaGreat
