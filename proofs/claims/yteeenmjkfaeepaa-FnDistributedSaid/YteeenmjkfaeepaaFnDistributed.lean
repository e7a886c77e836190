/- The law FnDistributed returns true for every code: of drawn truths a both over an either is an either of boths. No condition. -/
import Derived.Test.YteeenmjkfaeepaaRows
import Derived.Test.YteeenmjkfaeepaaDraw1
import Derived.ProofKit
import Derived.OpenShut
import Derived.ShutString
import Derived.ChangeOld
import Derived.SizedLaws
namespace Go.Proofs.Yteeenmjkfaeepaa
open Go.RowKit
set_option linter.unusedVariables false
set_option linter.unusedSimpArgs false
theorem big_any {A : Option Addr} {len cap : Nat} (w : World) (hl : len ≤ maxLen) : Calls Try.prog 31 #[.slice A len cap] w (Just w (.bool (decide ((len : Int) > 1048576)))) := by
  unfold maxLen at hl
  go_enter Try.func31, Try.ntmps31
  go_wp2
  go_ret
  exact ⟨ret_bool (by simp), rfl⟩
theorem dist_both (a b : Int) (h : 0 ≤ and3 a b) : (∀ c, c = a ∨ c = b ∨ c = and3 a b ∨ c = not3 a → and3 c (or3T a b) = or3T (and3 c a) (and3 c b) ∧ or3T c (and3 a b) = and3 (or3T c a) (or3T c b)) := by
  obtain ⟨ha, hb⟩ := and3_ok h
  rcases ha with rfl | rfl | rfl <;> rcases hb with rfl | rfl | rfl <;> rintro c (rfl | rfl | rfl | rfl) <;> decide
set_option maxHeartbeats 4000000 in
theorem law_FnDistributed (A : Option Addr) (len cap : Nat) (xs : List Int) {W : World} (h : IsSl Kd.byte W (· < W.heap.size) A len cap xs) (w : World) (hw : w = W) :
    Calls Try.prog 11 #[.slice A len cap] w (Ret w (.bool true)) := by
  subst hw
  have hl := Nat.le_trans h.2.1 h.2.2.1
  go_enter Try.func11, Try.ntmps11
  have hcur := Grow.refl w
  have h4 : ((len : Int) % 4 = 0 ∨ (len : Int) % 4 = 1) ∨ ((len : Int) % 4 = 2 ∨ (len : Int) % 4 = 3) := by omega
  rcases h4 with (h4 | h4) | (h4 | h4)
  all_goals
   go_wp2_with (first | (go_at_call 31; (with_reducible refine (big_any _ hl).mono ?_); rintro e w1 ⟨rfl, rfl⟩) | (go_at_call 32; (with_reducible refine (drawAnd3_any _ h).mono ?_); rintro e w1 ⟨a, b, rfl, hb⟩; replace hcur := hcur.trans hb; clear hb) | (go_at_call 21; (with_reducible refine (sAnd3_any _ _ _).mono ?_); rintro e w1 ⟨rfl, rfl⟩) | (go_at_call 22; (with_reducible refine (iAnd3_any _ _ _).mono ?_); rintro e w1 ⟨rfl, hb⟩; replace hcur : Grow w w1 := (by repeat (with_reducible first | exact Grow.refl _ | assumption | refine Grow.drew ?_ | refine Grow.alloc ?_ _ | refine Grow.set ?_ (by first | exact Nat.le_refl _ | (simp; done) | (simp; omega) | omega) _ | exact And.left (by assumption) | refine Grow.trans ?_ (by assumption))); clear hb) | (go_at_call 24; (with_reducible refine (iOr3_any _ _ _).mono ?_); rintro e w1 ⟨rfl, hb⟩; replace hcur : Grow w w1 := (by repeat (with_reducible first | exact Grow.refl _ | assumption | refine Grow.drew ?_ | refine Grow.alloc ?_ _ | refine Grow.set ?_ (by first | exact Nat.le_refl _ | (simp; done) | (simp; omega) | omega) _ | exact And.left (by assumption) | refine Grow.trans ?_ (by assumption))); clear hb) | (go_at_call 16; (with_reducible refine (iNot3_any _ _).mono ?_); rintro e w1 ⟨rfl, hb⟩; replace hcur : Grow w w1 := (by repeat (with_reducible first | exact Grow.refl _ | assumption | refine Grow.drew ?_ | refine Grow.alloc ?_ _ | refine Grow.set ?_ (by first | exact Nat.le_refl _ | (simp; done) | (simp; omega) | omega) _ | exact And.left (by assumption) | refine Grow.trans ?_ (by assumption))); clear hb))
   all_goals go_ret
   all_goals refine ⟨ret_bool ?_, (by repeat (with_reducible first | exact Grow.refl _ | assumption | refine Grow.drew ?_ | refine Grow.alloc ?_ _ | refine Grow.set ?_ (by first | exact Nat.le_refl _ | (simp; done) | (simp; omega) | omega) _ | exact And.left (by assumption) | refine Grow.trans ?_ (by assumption)))⟩
   all_goals first | rfl | (have hd := dist_both a b (by assumption); have h1 := hd _ (.inl rfl); have h2 := hd _ (.inr (.inl rfl)); have h3 := hd _ (.inr (.inr (.inl rfl))); have h4 := hd _ (.inr (.inr (.inr rfl))); clear hd hcur h hl; simp only [h1, h2, h3, h4, not_true_eq_false, beq_self_eq_true, decide_true] at *)
end Go.Proofs.Yteeenmjkfaeepaa
namespace Go.Proofs.Yteeenmjkfaeepaa.FnDistributed
open Go.ChangeShapes Go.WideShapes Go.ChangeAt Go.RowKit
open Go.ChangeMaps (open_string shut_string)
theorem own : ownKnob Try.prog.godebug = none := by kernel_rfl
theorem laidOut : laidOutB Try.prog = true := by kernel_rfl
set_option maxRecDepth 100000 in
theorem lifted (os : Os) (started : os.Started) (H : Type) (enc : TypeId × Value → H) :
    ReturnsInHanded {} Try.checked os 11 .any (Rows.fnDistributedSpec.pre6 enc Try.prog Try.f11 Rows.fnDistributedRow.domain false) (Rows.fnDistributedSpec.post enc Try.prog Try.f11 false true false false) := by
  refine returnsInHanded_of_change_sized (C := Try.checked) own started (by kernel_rfl) Try.func11
    (ChangeSpec.witness6 (enc := enc) (C := Try.checked) false ⟨#[], #[.slice none 0 0], []⟩ 8 (by kernel_rfl) (by kernel_rfl) (by kernel_rfl) (by kernel_rfl)) ?_
  intro W base args ds gs before hval0 hW hcnd hsz0 _
  have hval : ∀ (j : Nat) t v, Try.f11.params[j]? = some t → args[j]? = some v → Value.okWide Try.prog W .any base t v := hval0
  have hW' := hW
  obtain ⟨p, q, hA0, hV, rfl, hfz, hnd⟩ := hW
  have hA : DataW.TrodAll enc Try.prog W 0 (fun _ => true) true Try.f11.params.toList args.toList ds p := hA0
  rw [Try.params11] at hA hval
  obtain ⟨v0, vs0, d0, ds0, p0, q0, hargs, rfl, rfl, h0, r0⟩ := trodAll_cons hA
  obtain ⟨rfl, rfl, rfl⟩ := trodAll_nil r0
  obtain rfl : args = #[v0] := by cases args; simp_all
  obtain ⟨rfl, rfl⟩ := trodVars_none hV
  have k0 := h0
  have lt0 : ∀ x ∈ p0, x.block < W.heap.size := by obtain ⟨m, hm⟩ := k0; exact DataW.trod_lt m _ _ _ hm
  obtain ⟨A0, len0, cap0, rfl⟩ := okWide_slice Try.underlying36 (hval 0 36 v0 rfl rfl)
  obtain ⟨xs0, e0⟩ := opens_bytes.of h0
  replace e0 := isSl_of e0
  clear hA0 hval0 hsz0
  refine (law_FnDistributed A0 len0 cap0 xs0 e0 W rfl).mono fun e W' ⟨he, bel⟩ => ?_
  subst he
  exact ⟨_, rfl, _, _, _, [], _, [], hW', trodAll_mk1 (shut_bool Try.underlying4 _), (trodAll_cons_mk (Below.trod laidOut (by kernel_rfl) (of_decide_eq_true (by kernel_rfl)) k0 bel lt0) trodAll_mk0), rfl, Below.frame bel _, fun h => by cases h⟩
theorem over : Rows.fnDistributedRow.holds Try.pinned (OpenSpec.ofChange Rows.fnDistributedSpec) :=
  OpenClaim.holds_of_wide 11 Try.f11 rfl rfl rfl rfl rfl rfl rfl ⟨rfl, rfl, rfl, rfl, rfl⟩ rfl rfl rfl rfl rfl (by kernel_rfl) Try.func11 (by kernel_rfl)
    (of_decide_eq_true (by kernel_rfl)) (by unfold Func.isWrapper; first | (rw [if_pos (by decide +kernel)]; kernel_rfl) | (rw [if_neg (by decide +kernel)]; exact ⟨rfl, rfl⟩))
    (fun os started H enc _ => lifted os started H enc)
theorem proved : Rows.FnDistributedSaid := over
#print axioms proved
end Go.Proofs.Yteeenmjkfaeepaa.FnDistributed
namespace Go.Proofs.Yteeenmjkfaeepaa
/-- The row, for the claim. -/
theorem fnDistributed_holds : Rows.FnDistributedSaid := FnDistributed.proved
end Go.Proofs.Yteeenmjkfaeepaa
