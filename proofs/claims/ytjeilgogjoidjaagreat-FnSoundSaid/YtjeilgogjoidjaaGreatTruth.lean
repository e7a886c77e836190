import Derived.Test.YtjeilgogjoidjaaGreatRun
/-! The truth of an expression. -/
namespace Go.Proofs.YtjeilgogjoidjaaGreat
open Go.RowKit
set_option linter.unusedVariables false
set_option linter.unusedSimpArgs false
theorem iTruth_any {A B : Option Addr} {la ca lb cb : Nat} {e : List Tok} {row : List Val} (w : World) (he : IsSl Kd.tok w (· < w.heap.size) A la ca e) (hr : IsSl Kd.val w (· < w.heap.size) B lb cb row) :
    Calls Tryz.prog 130 #[.slice A la ca, .slice B lb cb] w (Ret w (.int .i64 (trL e row))) := by
  cases hv : evL e row with
  | none =>
    have ht := Lib.hid (show trL e row = -1 by rw [trL, hv])
    have HV := Lib.hid hv
    clear hv
    go_enter Tryz.func130, Tryz.ntmps130
    go_wp2_with fail
    refine (iEval_any _ he hr).mono ?_
    rintro e1 w1 h1
    rw [HV.out] at h1
    obtain ⟨rfl, g1⟩ := h1
    go_wp2
    go_ret
    exact ⟨ret_int ht.out.symm, (by repeat (with_reducible first | exact Grow.refl _ | assumption | refine Grow.drew ?_ | refine Grow.alloc ?_ _ | refine Grow.set ?_ (by first | exact Nat.le_refl _ | (simp; done) | (simp; omega) | omega) _ | exact And.left (by assumption) | refine Grow.trans ?_ (by assumption)))⟩
  | some u =>
    have ht := Lib.hid (show trL e row = truthV ⟨u.kind, u.n, u.s⟩ by rw [trL, hv])
    have HV := Lib.hid hv
    clear hv
    go_enter Tryz.func130, Tryz.ntmps130
    go_wp2_with fail
    refine (iEval_any _ he hr).mono ?_
    rintro e1 w1 h1
    rw [HV.out] at h1
    obtain ⟨rfl, g1⟩ := h1
    go_wp2_with fail
    refine (truth_any _ _ _ _).mono ?_
    rintro e2 w2 ⟨rfl, g2⟩
    go_wp2
    go_ret
    exact ⟨ret_int ht.out.symm, (by repeat (with_reducible first | exact Grow.refl _ | assumption | refine Grow.drew ?_ | refine Grow.alloc ?_ _ | refine Grow.set ?_ (by first | exact Nat.le_refl _ | (simp; done) | (simp; omega) | omega) _ | exact And.left (by assumption) | refine Grow.trans ?_ (by assumption)))⟩
end Go.Proofs.YtjeilgogjoidjaaGreat
