import Derived.Test.YtdgmoplfiodahaaGreatDoorSlices
/-! Truths of three kinds. -/
namespace Go.Proofs.YtdgmoplfiodahaaGreatDoor
open Go.RowKit
set_option linter.unusedVariables false
set_option linter.unusedSimpArgs false
def truB (a : Int) : Bool := inB a 0 2
def and3 (a b : Int) : Int := if truB a && truB b then if a = 0 ∨ b = 0 then 0 else if a = 1 ∧ b = 1 then 1 else 2 else -1
def or3T (a b : Int) : Int := if truB a && truB b then if a = 1 ∨ b = 1 then 1 else if a = 0 ∧ b = 0 then 0 else 2 else -1
def not3 (a : Int) : Int := if truB a then if a = 2 then 2 else 1 - a else -1
theorem truB_spec {a : Int} (h : truB a = true) : a = 0 ∨ a = 1 ∨ a = 2 := by simp [truB, inB] at h; omega
theorem and3_ok {a b : Int} (h : 0 ≤ and3 a b) : (a = 0 ∨ a = 1 ∨ a = 2) ∧ (b = 0 ∨ b = 1 ∨ b = 2) := by
  unfold and3 at h
  split at h
  · rename_i hh
    rw [Bool.and_eq_true] at hh
    exact ⟨truB_spec hh.1, truB_spec hh.2⟩
  · omega
theorem isSl_new {w : World} {xs : List Int} {t : TypeId} (hl : xs.length ≤ maxLen) :
    IsSl Kd.int (w.alloc (.cells (xs.map (Value.int .i64)).toArray t)) (· < (w.alloc (.cells (xs.map (Value.int .i64)).toArray t)).heap.size) (some ⟨w.heap.size, 0, none⟩) xs.length xs.length xs := by
  refine ⟨rfl, Nat.le_refl _, hl, fun _ => ⟨w.heap.size, 0, rfl, by simp, fun i hi => ⟨[.int .i64 xs[i]], fun j hj => ?_, rfl⟩⟩⟩
  have : j = 0 := by simp [Kd.int] at hj; omega
  subst this
  simp [Kd.int, hi]
end Go.Proofs.YtdgmoplfiodahaaGreatDoor
