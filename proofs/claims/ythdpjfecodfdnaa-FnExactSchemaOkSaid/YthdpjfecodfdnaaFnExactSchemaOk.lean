/- The law FnExactSchemaOk returns true for every schema: the program's SchemaOk and the reference's tell the same, and the schema reads as it did. No condition. -/
import Derived.Test.YthdpjfecodfdnaaRows
import Derived.Test.YthdpjfecodfdnaaSchOkS
import Derived.ProofKit
import Derived.OpenShut
import Derived.ShutString
import Derived.ChangeOld
import Derived.SizedLaws
namespace Go.Proofs.Ythdpjfecodfdnaa
open Go.RowKit
set_option linter.unusedVariables false
set_option linter.unusedSimpArgs false
theorem law_FnExactSchemaOk (A : Option Addr) (len cap : Nat) (xs : List Table) {W : World} (h : IsSl Kd.table W (· < W.heap.size) A len cap xs) (w : World) (hw : w = W) :
    Calls Try.prog 10 #[.slice A len cap] w (Ret w (.bool true)) := by
  subst hw
  go_enter Try.func10, Try.ntmps10
  go_wp2_with fail
  refine (szTableS_any _ _ h (by decide) (by decide)).mono ?_
  rintro e w1 ⟨r, rfl, hr, g1⟩
  rcases hr with rfl | ⟨hr0, hr1, hl⟩
  · go_wp2
    go_ret
    exact ⟨rfl, g1⟩
  go_wp2_with fail
  refine (toTableS_any _ (h.grow g1) hl).mono ?_
  rintro e w2 ⟨A2, l2, c2, rfl, h2, g2⟩
  go_wp2_with fail
  refine (sSchemaOk_any _ h2.fresh).mono ?_
  rintro e w3 ⟨rfl, g3⟩
  have g03 := g1.trans (g2.trans g3)
  go_wp2_with fail
  refine (toTableS_any _ (h.grow g03) hl).mono ?_
  rintro e w4 ⟨A4, l4, c4, rfl, h4, g4⟩
  go_wp2_with fail
  refine (iSchemaOk_any _ h4.fresh).mono ?_
  rintro e w5 ⟨rfl, g5⟩
  have g05 := g03.trans (g4.trans g5)
  go_wp2_with fail
  refine (toTableS_any _ (h.grow g05) hl).mono ?_
  rintro e w6 ⟨A6, l6, c6, rfl, h6, g6⟩
  go_wp2_with fail
  refine (eqTableS_any _ (h4.fresh.grow (g5.trans g6)) h6.fresh).mono ?_
  rintro e w7 ⟨rfl, g7⟩
  go_wp2
  go_ret
  exact ⟨rfl, g05.trans (g6.trans g7)⟩
end Go.Proofs.Ythdpjfecodfdnaa
namespace Go.Proofs.Ythdpjfecodfdnaa.FnExactSchemaOk
open Go.ChangeShapes Go.WideShapes Go.ChangeAt Go.RowKit
open Go.ChangeMaps (open_string shut_string)
theorem own : ownKnob Try.prog.godebug = none := by kernel_rfl
theorem laidOut : laidOutB Try.prog = true := by kernel_rfl
set_option maxRecDepth 100000 in
theorem lifted (os : Os) (started : os.Started) (H : Type) (enc : TypeId × Value → H) :
    ReturnsInHanded {} Try.checked os 10 .any (Rows.fnExactSchemaOkSpec.pre6 enc Try.prog Try.f10 Rows.fnExactSchemaOkRow.domain false) (Rows.fnExactSchemaOkSpec.post enc Try.prog Try.f10 false true false false) := by
  refine returnsInHanded_of_change_sized (C := Try.checked) own started (by kernel_rfl) Try.func10
    (ChangeSpec.witness6 (enc := enc) (C := Try.checked) false ⟨#[], #[.slice none 0 0], []⟩ 8 (by kernel_rfl) (by kernel_rfl) (by kernel_rfl) (by kernel_rfl)) ?_
  intro W base args ds gs before hval0 hW hcnd hsz0 _
  have hval : ∀ (j : Nat) t v, Try.f10.params[j]? = some t → args[j]? = some v → Value.okWide Try.prog W .any base t v := hval0
  have hW' := hW
  obtain ⟨p, q, hA0, hV, rfl, hfz, hnd⟩ := hW
  have hA : DataW.TrodAll enc Try.prog W 0 (fun _ => true) true Try.f10.params.toList args.toList ds p := hA0
  rw [Try.params10] at hA hval
  obtain ⟨v0, vs0, d0, ds0, p0, q0, hargs, rfl, rfl, h0, r0⟩ := trodAll_cons hA
  obtain ⟨rfl, rfl, rfl⟩ := trodAll_nil r0
  obtain rfl : args = #[v0] := by cases args; simp_all
  obtain ⟨rfl, rfl⟩ := trodVars_none hV
  have k0 := h0
  have lt0 : ∀ x ∈ p0, x.block < W.heap.size := by obtain ⟨m, hm⟩ := k0; exact DataW.trod_lt m _ _ _ hm
  obtain ⟨A0, len0, cap0, rfl⟩ := okWide_slice Try.underlying59 (hval 0 59 v0 rfl rfl)
  obtain ⟨xs0, e0⟩ := opens_ltables.of h0
  replace e0 := isSl_of e0
  clear hA0 hval0 hsz0
  refine (law_FnExactSchemaOk A0 len0 cap0 xs0 e0 W rfl).mono fun e W' ⟨he, bel⟩ => ?_
  subst he
  exact ⟨_, rfl, _, _, _, [], _, [], hW', trodAll_mk1 (shut_bool Try.underlying4 _), (trodAll_cons_mk (Below.trod laidOut (by kernel_rfl) (of_decide_eq_true (by kernel_rfl)) k0 bel lt0) trodAll_mk0), rfl, Below.frame bel _, fun h => by cases h⟩
theorem over : Rows.fnExactSchemaOkRow.holds Try.pinned (OpenSpec.ofChange Rows.fnExactSchemaOkSpec) :=
  OpenClaim.holds_of_wide 10 Try.f10 rfl rfl rfl rfl rfl rfl rfl ⟨rfl, rfl, rfl, rfl, rfl⟩ rfl rfl rfl rfl rfl (by kernel_rfl) Try.func10 (by kernel_rfl)
    (of_decide_eq_true (by kernel_rfl)) (by unfold Func.isWrapper; first | (rw [if_pos (by decide +kernel)]; kernel_rfl) | (rw [if_neg (by decide +kernel)]; exact ⟨rfl, rfl⟩))
    (fun os started H enc _ => lifted os started H enc)
theorem proved : Rows.FnExactSchemaOkSaid := over
#print axioms proved
end Go.Proofs.Ythdpjfecodfdnaa.FnExactSchemaOk
namespace Go.Proofs.Ythdpjfecodfdnaa
/-- The row, for the claim. -/
theorem fnExactSchemaOk_holds : Rows.FnExactSchemaOkSaid := FnExactSchemaOk.proved
end Go.Proofs.Ythdpjfecodfdnaa
