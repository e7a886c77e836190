import Derived.Test.YtdgmoplfiodahaaGreatDoorRows
import Derived.Test.YtdgmoplfiodahaaGreatDoorTextI
import Derived.LaidMore
import Derived.LaidLaws
import Derived.Lib.LaidTab
/-! What the rows' listed variables give the walks. -/
namespace Go.Proofs.YtdgmoplfiodahaaGreatDoor
open Go.RowKit
set_option linter.unusedVariables false
set_option linter.unusedSimpArgs false
theorem laidVars_at {P : Program} {W : World} {name : String} {d : DataW Unit} : ∀ {l : List (String × DataW Unit)} {ps : List MemPlace}, DataW.LaidVars P W l ps → (name, d) ∈ l →
    ∃ g t cs fuel p, P.globalNamed name = some g ∧ (P.globals[g]?).map (·.type) = some t ∧ W.var? P name = some cs ∧ DataW.trod (fun _ => ()) P W 0 (fun _ => true) false fuel t cs.toList = some (d, p) ∧ ∀ i, i < cs.size → MemPlace.cell g i ∈ ps
  | [], _, _, hm => by simp at hm
  | (n, d') :: r, ps, h, hm => by
    obtain ⟨g, t, cs, fuel, p, q, h1, h2, h3, h4, h5, h6⟩ := h
    rcases List.mem_cons.mp hm with he | hm
    · obtain ⟨rfl, rfl⟩ := Prod.mk.inj he
      refine ⟨g, t, cs, fuel, p, h1, h2, h3, h4, fun i hi => ?_⟩
      rw [h6]
      simp only [List.mem_append]
      exact .inl (.inl (by simp [MemPlace.row, hi]))
    · obtain ⟨g', t', cs', fuel', p', k1, k2, k3, k4, k5⟩ := laidVars_at h5 hm
      exact ⟨g', t', cs', fuel', p', k1, k2, k3, k4, fun i hi => by rw [h6]; exact List.mem_append_right _ (k5 i hi)⟩
theorem pow10_of {W : World} {l : List (String × DataW Unit)} (h : laidMet Tryz.prog l W) (hm : ("internal/strconv.uint64pow10", Lib.tabData .u64 Lib.pow10Tab) ∈ l) : Pow10 W := by
  obtain ⟨ps, h, _⟩ := h
  obtain ⟨g, t, cs, fuel, p, h1, h2, h3, h4, _⟩ := laidVars_at h hm
  have hg : Tryz.prog.globalNamed "internal/strconv.uint64pow10" = some 3 := by kernel_rfl
  obtain rfl := Option.some.inj (hg.symm.trans h1)
  have ht : (Tryz.prog.globals[3]?).map (·.type) = some 127 := by kernel_rfl
  obtain rfl := Option.some.inj (ht.symm.trans h2)
  have hc := Lib.cells_of_tab Tryz.underlying127 Tryz.underlying106 (by kernel_rfl) (by kernel_rfl) h4
  unfold Pow10 Lib.TabIs
  rw [h3, ← hc]
theorem pow10_row : (Rows.laid_internal_strconv_uint64pow10 : DataW Unit) = Lib.tabData .u64 Lib.pow10Tab := by kernel_rfl
end Go.Proofs.YtdgmoplfiodahaaGreatDoor
