import Derived.Test.YtjeilgogjoidjaaDbRows
/-! A new database: of each table no rows. -/
namespace Go.Proofs.Ytjeilgogjoidjaa
open Go.RowKit
set_option linter.unusedVariables false
set_option linter.unusedSimpArgs false
def newN (s : List Table) : Nat := if schemaOkB s then s.length else 0
def newOf (s : List Table) : List Data := List.replicate (newN s) ⟨[]⟩
theorem fill_zero {α : Type} {k : Kd α} {E : TypeId} {B : Nat} {w : World} {g len : Nat} {z : Array Value} {x : α} (h : w.ownsRow B E k.n (.slice (some ⟨g, 0, none⟩) len len) len (madeCells z (len * k.n)).toList) (hz : z.size = k.n)
    (hr : k.rd w (fun b => Fresh B w b ∧ b ≠ g) z.toList x) : Fill k E B w g len len (List.replicate len x) := by
  obtain ⟨_, h | ⟨g', cap, cur, hv, hB, hh, _, _, hs, ht⟩⟩ := h
  · cases h.1
  · simp only [Value.slice.injEq, Option.some.injEq, Addr.mk.injEq, and_true, true_and] at hv
    obtain ⟨rfl, rfl⟩ := hv
    refine ⟨hB, cur, hh, hs, fun i hi => ⟨z.toList, x, by simp [hi], fun j hj => ?_, hr⟩⟩
    have hlt : i * k.n + j < len * k.n := by
      have : (i + 1) * k.n ≤ len * k.n := Nat.mul_le_mul_right _ hi
      rw [Nat.add_mul, Nat.one_mul] at this
      omega
    have e1 : cur.toList = (madeCells z (len * k.n)).toList := by rw [← ht, List.take_of_length_le (by rw [Array.length_toList, hs]; exact Nat.le_refl _)]
    have e2 : cur = madeCells z (len * k.n) := Array.toList_inj.mp e1
    rw [e2, madeCells]
    simp only [Array.getElem?_map, Array.getElem?_range, hlt, if_true, Option.map_some, Array.getElem?_toList]
    rw [hz, Nat.mul_add_mod_self_right, Nat.mod_eq_of_lt hj, getElem!_pos z j (by omega), Array.getElem?_eq_getElem (by omega)]
/-- What DbNew hands back. -/
def NewRes (q : Bool) (ds : List Data) (w : World) (e : Ending) (w' : World) : Prop := ∃ A len cap, e = .returned (.tuple #[.slice A len cap, .bool q]) ∧ IsSl Kd.data w' (Fresh w.heap.size w') A len cap ds ∧ Grow w w'
end Go.Proofs.Ytjeilgogjoidjaa
