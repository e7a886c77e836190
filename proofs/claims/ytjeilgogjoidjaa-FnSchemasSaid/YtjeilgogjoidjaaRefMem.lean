import Derived.Test.YtjeilgogjoidjaaRefers
/-! Who refers to a table, in plain terms. -/
namespace Go.Proofs.Ytjeilgogjoidjaa
open Go.RowKit
set_option linter.unusedVariables false
set_option linter.unusedSimpArgs false
theorem refersV_mem {s : List Table} {name : ByteArray} (hok : schemaOkB s = true) {i : Nat} {t : Table} (ht : s[i]? = some t) : (refersV s name).any (· == (i : Int)) = refT name t := by
  have hi := (List.getElem?_eq_some_iff.mp ht).1
  unfold refersV
  rw [if_pos hok]
  unfold refIx
  rw [Bool.eq_iff_iff, List.any_eq_true]
  constructor
  · rintro ⟨x, hx, hxi⟩
    obtain ⟨j, hj, hx⟩ := List.mem_filterMap.mp hx
    rw [List.mem_range] at hj
    rw [List.getElem?_eq_getElem hj] at hx
    dsimp only at hx
    split at hx
    · rename_i hr
      injection hx with hx
      rw [beq_iff_eq] at hxi
      obtain rfl : j = i := by omega
      rw [List.getElem?_eq_getElem hj] at ht
      cases ht
      exact hr
    · cases hx
  · intro hr
    refine ⟨(i : Int), List.mem_filterMap.mpr ⟨i, List.mem_range.mpr hi, ?_⟩, by simp⟩
    rw [ht]
    dsimp only
    rw [if_pos hr]
end Go.Proofs.Ytjeilgogjoidjaa
