import Derived.Test.YtjeilgogjoidjaaGreatSlices
/-! Truths of three kinds. -/
namespace Go.Proofs.YtjeilgogjoidjaaGreat
open Go.RowKit
set_option linter.unusedVariables false
set_option linter.unusedSimpArgs false
theorem areTruths1_any (x : Int) (w : World) : Calls Tryz.prog 202 #[.int .i64 x] w (Ret w (.bool (!inB x 0 2))) := by
  go_enter Tryz.func202, Tryz.ntmps202
  go_wp2_with (go_at_call 57; (with_reducible refine (in_any _ _ _ _).mono ?_); rintro e w1 ⟨rfl, rfl⟩)
  go_ret
  exact ⟨rfl, Grow.refl _⟩
theorem areTruths_any {A : Option Addr} {len cap : Nat} {xs : List Int} (w : World) (h : IsSl Kd.int w (· < w.heap.size) A len cap xs) :
    Calls Tryz.prog 196 #[.slice A len cap] w (Ret w (.bool (!xs.any fun x => !inB x 0 2))) := by
  go_enter Tryz.func196, Tryz.ntmps196
  go_wp2_with fail
  refine (containsFunc_int 202 ⟨fun a w => by go_simp⟩ #[] #[] (fun x => !inB x 0 2) w h (fun x w' _ _ => by simpa using areTruths1_any x w')).mono ?_
  rintro e w1 ⟨rfl, hb⟩
  go_wp2
  go_ret
  exact ⟨rfl, hb⟩
def truB (a : Int) : Bool := inB a 0 2
def and3 (a b : Int) : Int := if truB a && truB b then if a = 0 ∨ b = 0 then 0 else if a = 1 ∧ b = 1 then 1 else 2 else -1
def or3T (a b : Int) : Int := if truB a && truB b then if a = 1 ∨ b = 1 then 1 else if a = 0 ∧ b = 0 then 0 else 2 else -1
def not3 (a : Int) : Int := if truB a then if a = 2 then 2 else 1 - a else -1
theorem truB_spec {a : Int} (h : truB a = true) : a = 0 ∨ a = 1 ∨ a = 2 := by simp [truB, inB] at h; omega
theorem and3_ok {a b : Int} (h : 0 ≤ and3 a b) : (a = 0 ∨ a = 1 ∨ a = 2) ∧ (b = 0 ∨ b = 1 ∨ b = 2) := by
  unfold and3 at h
  split at h
  · rename_i hh
    rw [Bool.and_eq_true] at hh
    exact ⟨truB_spec hh.1, truB_spec hh.2⟩
  · omega
theorem isSl_new {w : World} {xs : List Int} {t : TypeId} (hl : xs.length ≤ maxLen) :
    IsSl Kd.int (w.alloc (.cells (xs.map (Value.int .i64)).toArray t)) (· < (w.alloc (.cells (xs.map (Value.int .i64)).toArray t)).heap.size) (some ⟨w.heap.size, 0, none⟩) xs.length xs.length xs := by
  refine ⟨rfl, Nat.le_refl _, hl, fun _ => ⟨w.heap.size, 0, rfl, by simp, fun i hi => ⟨[.int .i64 xs[i]], fun j hj => ?_, rfl⟩⟩⟩
  have : j = 0 := by simp [Kd.int] at hj; omega
  subst this
  simp [Kd.int, hi]
theorem iAnd3_any (a b : Int) (w : World) : Calls Tryz.prog 185 #[.int .i64 a, .int .i64 b] w (Ret w (.int .i64 (and3 a b))) := by
  go_enter Tryz.func185, Tryz.ntmps185
  go_wp2_with fail
  refine (areTruths_any _ (isSl_new (xs := [a, b]) (t := 2) (by simp [maxLen]))).mono ?_
  rintro e w1 ⟨rfl, hg⟩
  go_wp2
  all_goals go_ret
  all_goals refine ⟨ret_int ?_, ((Grow.refl _).alloc _).trans hg⟩
  all_goals by_cases hA : inB a 0 2 = true <;> by_cases hB : inB b 0 2 = true <;> simp_all [and3, truB]
theorem l2Tru_any (a : Int) (w : World) : Calls Tryz.prog 198 #[.int .i64 a] w (Just w (.bool (truB a))) := by
  go_enter Tryz.func198, Tryz.ntmps198
  go_wp2_with (go_at_call 42; (with_reducible refine (l1In_any _ _ _ _).mono ?_); rintro e w1 ⟨rfl, rfl⟩)
  go_ret
  exact ⟨rfl, rfl⟩
theorem sAnd3_any (a b : Int) (w : World) : Calls Tryz.prog 192 #[.int .i64 a, .int .i64 b] w (Just w (.int .i64 (and3 a b))) := by
  go_enter Tryz.func192, Tryz.ntmps192
  go_wp2_with (first | (go_at_call 198; (with_reducible refine (l2Tru_any _ _).mono ?_); rintro e w1 ⟨rfl, rfl⟩))
  all_goals go_ret
  all_goals refine ⟨ret_int ?_, rfl⟩
  all_goals by_cases hA : truB a = true <;> by_cases hB : truB b = true <;> simp_all [and3]
theorem iOr3_any (a b : Int) (w : World) : Calls Tryz.prog 186 #[.int .i64 a, .int .i64 b] w (Ret w (.int .i64 (or3T a b))) := by
  go_enter Tryz.func186, Tryz.ntmps186
  go_wp2_with fail
  refine (areTruths_any _ (isSl_new (xs := [a, b]) (t := 2) (by simp [maxLen]))).mono ?_
  rintro e w1 ⟨rfl, hg⟩
  go_wp2
  all_goals go_ret
  all_goals refine ⟨ret_int ?_, ((Grow.refl _).alloc _).trans hg⟩
  all_goals by_cases hA : inB a 0 2 = true <;> by_cases hB : inB b 0 2 = true <;> simp_all [or3T, truB]
theorem sOr3_any (a b : Int) (w : World) : Calls Tryz.prog 193 #[.int .i64 a, .int .i64 b] w (Just w (.int .i64 (or3T a b))) := by
  go_enter Tryz.func193, Tryz.ntmps193
  go_wp2_with (first | (go_at_call 198; (with_reducible refine (l2Tru_any _ _).mono ?_); rintro e w1 ⟨rfl, rfl⟩))
  all_goals go_ret
  all_goals refine ⟨ret_int ?_, rfl⟩
  all_goals by_cases hA : truB a = true <;> by_cases hB : truB b = true <;> simp_all [or3T]
theorem iNot3_any (a : Int) (w : World) : Calls Tryz.prog 187 #[.int .i64 a] w (Ret w (.int .i64 (not3 a))) := by
  by_cases hA : inB a 0 2 = true
  · rcases truB_spec hA with rfl | rfl | rfl
    all_goals
      go_enter Tryz.func187, Tryz.ntmps187
      go_wp2_with fail
      refine (areTruths_any _ (isSl_new (xs := [_]) (t := 2) (by simp [maxLen]))).mono ?_
      rintro e w1 ⟨rfl, hg⟩
      go_wp2
      go_ret
      exact ⟨rfl, ((Grow.refl _).alloc _).trans hg⟩
  · replace hA : inB a 0 2 = false := by simpa using hA
    go_enter Tryz.func187, Tryz.ntmps187
    go_wp2_with fail
    refine (areTruths_any _ (isSl_new (xs := [a]) (t := 2) (by simp [maxLen]))).mono ?_
    rintro e w1 ⟨rfl, hg⟩
    go_wp2
    all_goals go_ret
    all_goals exact ⟨ret_int (by simp [not3, truB, hA]), ((Grow.refl _).alloc _).trans hg⟩
theorem sNot3_any (a : Int) (w : World) : Calls Tryz.prog 179 #[.int .i64 a] w (Just w (.int .i64 (not3 a))) := by
  go_enter Tryz.func179, Tryz.ntmps179
  go_wp2
  all_goals go_ret
  all_goals refine ⟨ret_int ?_, rfl⟩
  all_goals simp_all [not3, truB, inB]
  all_goals omega
end Go.Proofs.YtjeilgogjoidjaaGreat
