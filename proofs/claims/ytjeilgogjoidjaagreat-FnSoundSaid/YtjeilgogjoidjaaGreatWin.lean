import Derived.Test.YtjeilgogjoidjaaGreatSim
/-! Windows: what lies below, above and inside the blocks that marks turn. -/
namespace Go.Proofs.YtjeilgogjoidjaaGreat
open Go.RowKit
set_option linter.unusedVariables false
set_option linter.unusedSimpArgs false
theorem InWin.of {B B' C : Nat} {w w' : World} {b : Nat} (h : Fresh B w b) (hB : B' ≤ B) (hC : w.heap.size ≤ C) (hg : Grow w w') : InWin B' C w' b :=
  ⟨(h.grow hg).low hB, Nat.lt_of_lt_of_le h.2.1 hC⟩
theorem isSl_inWin {α : Type} {k : Kd α} {B B' C : Nat} {w w' : World} {A : Option Addr} {len cap : Nat} {xs : List α} (h : IsSl k w (Fresh B w) A len cap xs) (hB : B' ≤ B) (hC : w.heap.size ≤ C) (hg : Grow w w') : IsSl k w' (InWin B' C w') A len cap xs :=
  h.mono (fun b hb => InWin.of hb hB hC hg) (fun b hb => hg.block hb.2.1)
theorem isSl_above {α : Type} {k : Kd α} {B C D : Nat} {w w' : World} {A : Option Addr} {len cap : Nat} {xs : List α} (h : IsSl k w (Fresh D w) A len cap xs) (hD : C ≤ D) (hw : Win B C w w') : IsSl k w' (Fresh D w') A len cap xs :=
  h.mono (fun b hb => ⟨hb.1, Nat.lt_of_lt_of_le hb.2.1 hw.2.1, fun o => (hw.2.2.2 b o hb.2.1).trans (hb.2.2 o)⟩) (fun b hb => hw.2.2.1 b hb.2.1 (.inr (Nat.le_trans hD hb.1)))
theorem isSl_below {α : Type} {k : Kd α} {B C D : Nat} {w w' : World} {A : Option Addr} {len cap : Nat} {xs : List α} (h : IsSl k w (fun b => b < w.heap.size ∧ b < D) A len cap xs) (hD : D ≤ B) (hw : Win B C w w') : IsSl k w' (fun b => b < w'.heap.size ∧ b < D) A len cap xs :=
  h.mono (fun b hb => ⟨Nat.lt_of_lt_of_le hb.1 hw.2.1, hb.2⟩) (fun b hb => hw.2.2.1 b hb.1 (.inl (Nat.lt_of_lt_of_le hb.2 hD)))
theorem isSl_belowG {α : Type} {k : Kd α} {D : Nat} {w w' : World} {A : Option Addr} {len cap : Nat} {xs : List α} (h : IsSl k w (fun b => b < w.heap.size ∧ b < D) A len cap xs) (hg : Grow w w') : IsSl k w' (fun b => b < w'.heap.size ∧ b < D) A len cap xs :=
  h.mono (fun b hb => ⟨Nat.lt_of_lt_of_le hb.1 hg.size, hb.2⟩) (fun b hb => hg.block hb.1)
theorem isSl_winAbove {α : Type} {k : Kd α} {B C B' C' : Nat} {w w' : World} {A : Option Addr} {len cap : Nat} {xs : List α} (h : IsSl k w (InWin B' C' w) A len cap xs) (hD : C ≤ B') (hw : Win B C w w') : IsSl k w' (InWin B' C' w') A len cap xs :=
  h.mono (fun b hb => hb.win hw) (fun b hb => hw.2.2.1 b hb.1.2.1 (.inr (Nat.le_trans hD hb.1.1)))
theorem isSl_winG {α : Type} {k : Kd α} {B' C' : Nat} {w w' : World} {A : Option Addr} {len cap : Nat} {xs : List α} (h : IsSl k w (InWin B' C' w) A len cap xs) (hg : Grow w w') : IsSl k w' (InWin B' C' w') A len cap xs :=
  h.mono (fun b hb => ⟨hb.1.grow hg, hb.2⟩) (fun b hb => hg.block hb.1.2.1)
theorem isSl_win {α : Type} {k : Kd α} {B C : Nat} {w : World} {A : Option Addr} {len cap : Nat} {xs : List α} (h : IsSl k w (InWin B C w) A len cap xs) : IsSl k w (· < w.heap.size) A len cap xs :=
  h.mono (fun b hb => hb.1.2.1) (fun _ _ => rfl)
theorem isSl_low {α : Type} {k : Kd α} {D : Nat} {w : World} {A : Option Addr} {len cap : Nat} {xs : List α} (h : IsSl k w (fun b => b < w.heap.size ∧ b < D) A len cap xs) : IsSl k w (· < w.heap.size) A len cap xs :=
  h.mono (fun b hb => hb.1) (fun _ _ => rfl)
/-- What lies below D. -/
theorem isSl_toLow {α : Type} {k : Kd α} {B : Nat} {w w' : World} {A : Option Addr} {len cap : Nat} {xs : List α} (h : IsSl k w (Fresh B w) A len cap xs) (hg : Grow w w') : IsSl k w' (fun b => b < w'.heap.size ∧ b < w.heap.size) A len cap xs :=
  h.mono (fun b hb => ⟨Nat.lt_of_lt_of_le hb.2.1 hg.size, hb.2.1⟩) (fun b hb => hg.block hb.2.1)
end Go.Proofs.YtjeilgogjoidjaaGreat
