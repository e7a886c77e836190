/- The law FnExactLess3 returns true for every two values: the program's Less3 and the reference's tell the same. No condition. -/
import Derived.Test.YteeenmjkfaeepaaRows
import Derived.Test.YteeenmjkfaeepaaLawVals
import Derived.ProofKit
import Derived.OpenShut
import Derived.ShutString
import Derived.ChangeOld
import Derived.SizedLaws
namespace Go.Proofs.Yteeenmjkfaeepaa
open Go.RowKit
set_option linter.unusedVariables false
set_option linter.unusedSimpArgs false
theorem walk_FnExactLess3 (k n : Int) (s : ByteArray) (l m : Int) (t : ByteArray) (w : World) (zs : s.size ≤ maxLen) (zt : t.size ≤ maxLen) :
    Calls Try.prog 10 #[.agg #[.int .i64 k, .int .i64 n, .string s], .agg #[.int .i64 l, .int .i64 m, .string t]] w (Ret w (.bool true)) := by
  go_enter Try.func10, Try.ntmps10
  go_wp2_with fail
  generalize hW : World.alloc (World.alloc w _) _ = W
  obtain ⟨hg, hs, hs', k1, k2⟩ := boxed2 hW
  clear hW
  have hcur := Grow.refl W
  go_wp2_with (first | (go_at_call 17; (with_reducible refine (szVal_any k n s _ _ (by omega) (by omega) zs).mono ?_); rintro e w1 ⟨rfl, hb⟩; replace hcur := hcur.trans hb; replace hc := hcur.same; clear hb; have b1 := szn_le s.size) | (go_at_call 17; (with_reducible refine (szVal_any l m t _ _ (by omega) (by omega) zt).mono ?_); rintro e w1 ⟨rfl, hb⟩; replace hcur := hcur.trans hb; replace hc := hcur.same; clear hb))
  · go_ret
    exact ⟨rfl, hg.trans hcur⟩
  · go_ret
    exact ⟨rfl, hg.trans hcur⟩
  go_region_held3 (fun w' => Grow W w' ∧ Same W w') (exact Grow.both (by repeat (with_reducible first | exact Grow.refl _ | assumption | refine Grow.drew ?_ | refine Grow.alloc ?_ _ | refine Grow.set ?_ (by first | exact Nat.le_refl _ | (simp; done) | (simp; omega) | omega) _ | exact And.left (by assumption) | refine Grow.trans ?_ (by assumption)))) (first | (go_at_call 19; refine (toVal_any _ _ _ _).mono ?_; rintro e w2 ⟨rfl, hb⟩) | (go_at_call 29; refine (sLess3_any _ _ _ _ _ _ _).mono ?_; rintro e w2 ⟨rfl, hb⟩))
  clear hcur hc
  obtain ⟨hcur, hc⟩ : Grow W w2 ∧ Same W w2 := by assumption
  go_wp2
  go_region_held3 (fun w' => Grow W w' ∧ Same W w') (exact Grow.both (by repeat (with_reducible first | exact Grow.refl _ | assumption | refine Grow.drew ?_ | refine Grow.alloc ?_ _ | refine Grow.set ?_ (by first | exact Nat.le_refl _ | (simp; done) | (simp; omega) | omega) _ | exact And.left (by assumption) | refine Grow.trans ?_ (by assumption)))) (first | (go_at_call 19; refine (toVal_any _ _ _ _).mono ?_; rintro e w2 ⟨rfl, hb⟩) | (go_at_call 30; refine (iLess3_any _ _ _ _ _ _ _).mono ?_; rintro e w2 ⟨rfl, hb⟩))
  clear hcur hc
  obtain ⟨hcur, hc⟩ : Grow W w2 ∧ Same W w2 := by assumption
  go_wp2
  go_ret
  exact ⟨rfl, hg.trans hcur⟩
theorem law_FnExactLess3 (c : Array Value) (a : Val) {S S' : Nat → Prop} {W W' : World} (r : Kd.val.rd W S (Value.agg c).cells.toList a) (d : Array Value) (b : Val) (q : Kd.val.rd W' S' (Value.agg d).cells.toList b) (w : World) :
    Calls Try.prog 10 #[.agg c, .agg d] w (Ret w (.bool true)) := by
  obtain ⟨e, hs⟩ := r
  obtain rfl := agg_of e
  obtain ⟨e, ht⟩ := q
  obtain rfl := agg_of e
  exact walk_FnExactLess3 _ _ _ _ _ _ w hs ht
end Go.Proofs.Yteeenmjkfaeepaa
namespace Go.Proofs.Yteeenmjkfaeepaa.FnExactLess3
open Go.ChangeShapes Go.WideShapes Go.ChangeAt Go.RowKit
open Go.ChangeMaps (open_string shut_string)
theorem own : ownKnob Try.prog.godebug = none := by kernel_rfl
theorem laidOut : laidOutB Try.prog = true := by kernel_rfl
set_option maxRecDepth 100000 in
theorem lifted (os : Os) (started : os.Started) (H : Type) (enc : TypeId × Value → H) :
    ReturnsInHanded {} Try.checked os 10 .any (Rows.fnExactLess3Spec.pre6 enc Try.prog Try.f10 Rows.fnExactLess3Row.domain false) (Rows.fnExactLess3Spec.post enc Try.prog Try.f10 false true false false) := by
  refine returnsInHanded_of_change_sized (C := Try.checked) own started (by kernel_rfl) Try.func10
    (ChangeSpec.witness6 (enc := enc) (C := Try.checked) false ⟨#[], #[.agg #[.int .i64 0, .int .i64 0, .string ⟨#[]⟩], .agg #[.int .i64 0, .int .i64 0, .string ⟨#[]⟩]], []⟩ 8 (by kernel_rfl) (by kernel_rfl) (by kernel_rfl) (by kernel_rfl)) ?_
  intro W base args ds gs before hval0 hW hcnd hsz0 _
  have hval : ∀ (j : Nat) t v, Try.f10.params[j]? = some t → args[j]? = some v → Value.okWide Try.prog W .any base t v := hval0
  have hW' := hW
  obtain ⟨p, q, hA0, hV, rfl, hfz, hnd⟩ := hW
  have hA : DataW.TrodAll enc Try.prog W 0 (fun _ => true) true Try.f10.params.toList args.toList ds p := hA0
  rw [Try.params10] at hA hval
  obtain ⟨v0, vs0, d0, ds0, p0, q0, hargs, rfl, rfl, h0, r0⟩ := trodAll_cons hA
  obtain ⟨v1, vs1, d1, ds1, p1, q1, rfl, rfl, rfl, h1, r1⟩ := trodAll_cons r0
  obtain ⟨rfl, rfl, rfl⟩ := trodAll_nil r1
  obtain rfl : args = #[v0, v1] := by cases args; simp_all
  obtain ⟨rfl, rfl⟩ := trodVars_none hV
  have k0 := h0
  have lt0 : ∀ x ∈ p0, x.block < W.heap.size := by obtain ⟨m, hm⟩ := k0; exact DataW.trod_lt m _ _ _ hm
  have k1 := h1
  have lt1 : ∀ x ∈ p1, x.block < W.heap.size := by obtain ⟨m, hm⟩ := k1; exact DataW.trod_lt m _ _ _ hm
  obtain ⟨c0, rfl, _⟩ := okWide_struct Try.underlying26 (hval 0 26 v0 rfl rfl)
  obtain ⟨a0, e0⟩ := opens_lval.of h0
  obtain ⟨c1, rfl, _⟩ := okWide_struct Try.underlying26 (hval 1 26 v1 rfl rfl)
  obtain ⟨a1, e1⟩ := opens_lval.of h1
  clear hA0 hval0 hsz0
  refine (law_FnExactLess3 c0 a0 e0 c1 a1 e1 W).mono fun e W' ⟨he, bel⟩ => ?_
  subst he
  exact ⟨_, rfl, _, _, _, [], _, [], hW', trodAll_mk1 (shut_bool Try.underlying4 _), (trodAll_cons_mk (Below.trod laidOut (by kernel_rfl) (of_decide_eq_true (by kernel_rfl)) k0 bel lt0) (trodAll_cons_mk (Below.trod laidOut (by kernel_rfl) (of_decide_eq_true (by kernel_rfl)) k1 bel lt1) trodAll_mk0)), rfl, Below.frame bel _, fun h => by cases h⟩
theorem over : Rows.fnExactLess3Row.holds Try.pinned (OpenSpec.ofChange Rows.fnExactLess3Spec) :=
  OpenClaim.holds_of_wide 10 Try.f10 rfl rfl rfl rfl rfl rfl rfl ⟨rfl, rfl, rfl, rfl, rfl⟩ rfl rfl rfl rfl rfl (by kernel_rfl) Try.func10 (by kernel_rfl)
    (of_decide_eq_true (by kernel_rfl)) (by unfold Func.isWrapper; first | (rw [if_pos (by decide +kernel)]; kernel_rfl) | (rw [if_neg (by decide +kernel)]; exact ⟨rfl, rfl⟩))
    (fun os started H enc _ => lifted os started H enc)
theorem proved : Rows.FnExactLess3Said := over
#print axioms proved
end Go.Proofs.Yteeenmjkfaeepaa.FnExactLess3
namespace Go.Proofs.Yteeenmjkfaeepaa
/-- The row, for the claim. -/
theorem fnExactLess3_holds : Rows.FnExactLess3Said := FnExactLess3.proved
end Go.Proofs.Yteeenmjkfaeepaa
