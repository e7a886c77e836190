import Derived.Test.YtdgmoplfiodahaaGreatDoorLib
/-! Values: what the program's and the reference's functions of chapter 1 return. -/
namespace Go.Proofs.YtdgmoplfiodahaaGreatDoor
open Go.RowKit
set_option linter.unusedVariables false
set_option linter.unusedSimpArgs false

/-- A Val as Go has it. -/
structure Val where
  kind : Int
  n : Int
  s : ByteArray
def Val.cells (a : Val) : Array Value := #[.int .i64 a.kind, .int .i64 a.n, .string a.s]
def Val.v (a : Val) : Value := .agg #[.int .i64 a.kind, .int .i64 a.n, .string a.s]
/-- ValOk. -/
def okB (a : Val) : Bool :=
  if a.kind = 0 then a.n == 0 && a.s.toList.isEmpty else
  if a.kind = 1 then decide (-1000000000 ≤ a.n) && (decide (a.n ≤ 1000000000) && a.s.toList.isEmpty) else
  if a.kind = 2 then a.n == 0 && decide (a.s.size ≤ 12) else false
def inB (n low high : Int) : Bool := decide (low ≤ n) && decide (n ≤ high)

def knownB (a b : Val) : Bool := okB a && (okB b && (a.kind != 0 && b.kind != 0))

theorem in_any (a b c : Int) (w : World) : Calls Tryz.prog 43 #[.int .i64 a, .int .i64 b, .int .i64 c] w (Just w (.bool (inB a b c))) := by
  go_enter Tryz.func43, Tryz.ntmps43
  go_wp2
  all_goals go_ret
  all_goals refine ⟨ret_bool ?_, rfl⟩
  all_goals simp_all [inB]
  all_goals omega

theorem l1In_any (a b c : Int) (w : World) : Calls Tryz.prog 51 #[.int .i64 a, .int .i64 b, .int .i64 c] w (Just w (.bool (inB a b c))) := by
  go_enter Tryz.func51, Tryz.ntmps51
  go_wp2
  all_goals go_ret
  all_goals refine ⟨ret_bool ?_, rfl⟩
  all_goals simp_all [inB]
  all_goals omega

theorem iValOk_any (k n : Int) (s : ByteArray) (w : World) : Calls Tryz.prog 67 #[.agg #[.int .i64 k, .int .i64 n, .string s]] w (Ret w (.bool (okB ⟨k, n, s⟩))) := by
  go_enter Tryz.func67, Tryz.ntmps67
  go_wp2
  all_goals go_ret
  all_goals refine ⟨ret_bool ?_, (Grow.refl _).alloc _⟩
  all_goals simp_all [okB]
  all_goals omega

theorem sValOk_any (k n : Int) (s : ByteArray) (w : World) : Calls Tryz.prog 74 #[.agg #[.int .i64 k, .int .i64 n, .string s]] w (Ret w (.bool (okB ⟨k, n, s⟩))) := by
  go_enter Tryz.func74, Tryz.ntmps74
  go_wp2
  all_goals go_ret
  all_goals refine ⟨ret_bool ?_, (Grow.refl _).alloc _⟩
  all_goals simp_all [okB]
  all_goals omega

def cmpI (a b : Int) : Int := if a < b then -1 else if b < a then 1 else 0
def cmpS (a b : ByteArray) : Int := if Op.bytesLess a.toList b.toList then -1 else if a.toList = b.toList then 0 else 1
def or3 (x y z : Int) : Int := if x = 0 then if y = 0 then z else y else x
def ordV (a b : Val) : Int := or3 (cmpI a.kind b.kind) (cmpI a.n b.n) (cmpS a.s b.s)
def order (a b : Val) : Int := if okB a && okB b then ordV a b else 0
def less3 (a b : Val) : Int := if knownB a b then if ordV a b < 0 then 1 else 0 else 2
theorem bytesLess_self : ∀ l : List UInt8, Op.bytesLess l l = false
  | [] => by simp [Op.bytesLess]
  | a :: l => by simp [Op.bytesLess, bytesLess_self l]
theorem okB_spec {a : Val} (h : okB a = true) : (a.kind = 0 ∧ a.n = 0 ∧ a.s.toList = []) ∨ (a.kind = 1 ∧ -1000000000 ≤ a.n ∧ a.n ≤ 1000000000 ∧ a.s.toList = []) ∨ (a.kind = 2 ∧ a.n = 0 ∧ a.s.size ≤ 12) := by
  unfold okB at h
  split at h
  · simp_all
  · split at h
    · simp_all
    · split at h
      · simp_all
      · simp at h
end Go.Proofs.YtdgmoplfiodahaaGreatDoor
