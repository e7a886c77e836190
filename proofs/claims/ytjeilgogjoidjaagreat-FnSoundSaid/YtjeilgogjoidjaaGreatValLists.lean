import Derived.Test.YtjeilgogjoidjaaGreatFill
/-! Lists of right values. -/
namespace Go.Proofs.YtjeilgogjoidjaaGreat
open Go.RowKit
set_option linter.unusedVariables false
set_option linter.unusedSimpArgs false
def okVals (l : List Val) : Bool := l.all okB && decide (l.length ≤ 16)
/-- The first k have p. -/
def AllTo {α : Type} (p : α → Bool) (xs : List α) (k : Nat) : Prop := ∀ j x, j < k → xs[j]? = some x → p x = true
theorem AllTo.zero {α : Type} (p : α → Bool) (xs : List α) : AllTo p xs 0 := fun j _ h _ => absurd h (Nat.not_lt_zero j)
theorem AllTo.succ {α : Type} {p : α → Bool} {xs : List α} {k : Nat} (h : AllTo p xs k) {x : α} (hx : xs[k]? = some x) (hp : p x = true) : AllTo p xs (k + 1) := fun j y hj hy => by
  rcases Nat.lt_succ_iff_lt_or_eq.mp hj with h1 | rfl
  · exact h j y h1 hy
  · rw [hx] at hy; cases hy; exact hp
theorem AllTo.done {α : Type} {p : α → Bool} {xs : List α} {k : Nat} (h : AllTo p xs k) (hk : xs.length ≤ k) : xs.all p = true := by
  rw [List.all_eq_true]
  intro x hx
  obtain ⟨j, hj, rfl⟩ := List.getElem_of_mem hx
  exact h j _ (by omega) (List.getElem?_eq_getElem hj)
theorem all_false {α : Type} {p : α → Bool} {xs : List α} {k : Nat} {x : α} (hx : xs[k]? = some x) (hp : p x = false) : xs.all p = false := by
  rw [List.all_eq_false]
  exact ⟨x, List.mem_of_getElem? hx, by simp [hp]⟩
theorem areVals_any {A : Option Addr} {len cap : Nat} {xs : List Val} (w : World) (h : IsSl Kd.val w (· < w.heap.size) A len cap xs) :
    Calls Tryz.prog 54 #[.slice A len cap, .int .i64 16] w (Ret w (.bool (okVals xs))) := by
  have hlen : len ≤ maxLen := Nat.le_trans h.2.1 h.2.2.1
  have HX := Lib.hid h.1
  unfold maxLen at hlen
  go_enter Tryz.func54, Tryz.ntmps54
  go_wp2
  go_loopw [9] (fun i wr => ∃ k : Nat, k ≤ len ∧ k ≤ 16 ∧ i = .int .i64 k ∧ Grow w wr ∧ AllTo okB xs k) (fun i _ => len - (intOf i).toNat)
  case atStart => exact ⟨0, Nat.zero_le _, Nat.zero_le _, rfl, Grow.refl _, AllTo.zero _ _⟩
  case round =>
    obtain ⟨k, hk, hk16, rfl, hg, hall⟩ := hrel
    by_cases hlt : k < len
    · obtain ⟨b, off, x, rfl, hx, _, hb, hs, c0, c1, c2⟩ := val_at (h.grow hg) hlt
      have i0 : (0 : Int) ≤ (k : Int) := Int.natCast_nonneg k
      have i1 : (k : Int) < (len : Int) := Int.ofNat_lt.mpr hlt
      by_cases h16 : k = 16
      · have hf := Lib.hid (show okVals xs = false by simp only [okVals, HX.out]; rw [show decide (len ≤ 16) = false from decide_eq_false (by omega), Bool.and_false])
        subst h16
        go_wp2
        go_ret
        exact ⟨ret_bool hf.out.symm, (by repeat (with_reducible first | exact Grow.refl _ | assumption | refine Grow.drew ?_ | refine Grow.alloc ?_ _ | refine Grow.set ?_ (by first | exact Nat.le_refl _ | (simp; done) | (simp; omega) | omega) _ | exact And.left (by assumption) | refine Grow.trans ?_ (by assumption)))⟩
      have h16' : ((k : Int) == 16) = false := by simp; omega
      clear h16
      by_cases ho : okB x = true
      · go_wp2_with fail
        refine (iValOk_any _ _ _ _).mono ?_
        rintro e w1 ⟨rfl, hb1⟩
        go_wp2
        go_roundw
        case rel => exact ⟨k + 1, by omega, by simp at h16'; omega, by go_num, (by repeat (with_reducible first | exact Grow.refl _ | assumption | refine Grow.drew ?_ | refine Grow.alloc ?_ _ | refine Grow.set ?_ (by first | exact Nat.le_refl _ | (simp; done) | (simp; omega) | omega) _ | exact And.left (by assumption) | refine Grow.trans ?_ (by assumption))), hall.succ hx.out ho⟩
        case measure => simp [intOf]; omega
      · replace ho : okB x = false := by simpa using ho
        have hf := Lib.hid (show okVals xs = false by simp only [okVals, all_false hx.out ho, Bool.false_and])
        go_wp2_with fail
        refine (iValOk_any _ _ _ _).mono ?_
        rintro e w1 ⟨rfl, hb1⟩
        go_wp2
        go_ret
        exact ⟨ret_bool hf.out.symm, (by repeat (with_reducible first | exact Grow.refl _ | assumption | refine Grow.drew ?_ | refine Grow.alloc ?_ _ | refine Grow.set ?_ (by first | exact Nat.le_refl _ | (simp; done) | (simp; omega) | omega) _ | exact And.left (by assumption) | refine Grow.trans ?_ (by assumption)))⟩
    · have hf := Lib.hid (show okVals xs = true by simp only [okVals, hall.done (by rw [HX.out]; omega), HX.out, Bool.true_and]; simp; omega)
      go_wp2
      go_ret
      exact ⟨ret_bool hf.out.symm, hg⟩
end Go.Proofs.YtjeilgogjoidjaaGreat
