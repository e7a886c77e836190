import Derived.Test.YtonijaniaimgaaaGreatDrawS
/-! Schemas, drawn from a code. -/
namespace Go.Proofs.YtonijaniaimgaaaGreat
open Go.RowKit
set_option linter.unusedVariables false
set_option linter.unusedSimpArgs false
/-- Tables of one's own are handed back. -/
def TabsDrawn (w : World) (e : Ending) (w' : World) : Prop := ∃ (A : Option Addr) (n c : Nat) (s : List Table), e = .returned (.slice A n c) ∧ IsSl Kd.table w' (Fresh w.heap.size w') A n c s ∧ 1 ≤ n ∧ n ≤ 3 ∧ (∀ t ∈ s, 2 ≤ t.cols.length ∧ t.cols.length ≤ 3) ∧ Grow w w'
theorem drawDbNew_any {A : Option Addr} {len cap : Nat} {xs : List Int} (w : World) (h : IsSl Kd.byte w (· < w.heap.size) A len cap xs) :
    Calls Tryz.prog 33 #[.slice A len cap] w (TabsDrawn w) := by
  go_enter Tryz.func33, Tryz.ntmps33
  go_wp2_with fail
  refine (l1Open_any w h).mono ?_
  rintro e w1 ⟨g, rfl, hg, hG1, hR1⟩
  go_wp2_with fail
  refine (schema_any g _ hR1).mono ?_
  rintro e w2 ⟨A2, n2, c2, s2, rfl, own2, h1, h3, hb, hG2, hR2⟩
  go_wp2
  go_ret
  exact ⟨A2, n2, c2, s2, rfl, (own2.low hG1.size).isSl, h1, h3, hb, hG2.grow hG1 hg⟩
end Go.Proofs.YtonijaniaimgaaaGreat
