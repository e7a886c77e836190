/- The law FnSchemas returns true for every code: each table, and each column, is found by its name where it first stands, and who refers to a table is told once. No condition. -/
import Derived.Test.YtjeilgogjoidjaaRows
import Derived.Test.YtjeilgogjoidjaaSchemas
import Derived.ProofKit
import Derived.OpenShut
import Derived.ShutString
import Derived.ChangeOld
import Derived.SizedLaws
namespace Go.Proofs.Ytjeilgogjoidjaa.FnSchemas
open Go.ChangeShapes Go.WideShapes Go.ChangeAt Go.RowKit
open Go.ChangeMaps (open_string shut_string)
theorem own : ownKnob Try.prog.godebug = none := by kernel_rfl
theorem laidOut : laidOutB Try.prog = true := by kernel_rfl
set_option maxRecDepth 100000 in
theorem lifted (os : Os) (started : os.Started) (H : Type) (enc : TypeId × Value → H) :
    ReturnsInHanded {} Try.checked os 3 .any (Rows.fnSchemasSpec.pre6 enc Try.prog Try.f3 Rows.fnSchemasRow.domain false) (Rows.fnSchemasSpec.post enc Try.prog Try.f3 false true false false) := by
  refine returnsInHanded_of_change_sized (C := Try.checked) own started (by kernel_rfl) Try.func3
    (ChangeSpec.witness6 (enc := enc) (C := Try.checked) false ⟨#[], #[.slice none 0 0], []⟩ 8 (by kernel_rfl) (by kernel_rfl) (by kernel_rfl) (by kernel_rfl)) ?_
  intro W base args ds gs before hval0 hW hcnd hsz0 _
  have hval : ∀ (j : Nat) t v, Try.f3.params[j]? = some t → args[j]? = some v → Value.okWide Try.prog W .any base t v := hval0
  have hW' := hW
  obtain ⟨p, q, hA0, hV, rfl, hfz, hnd⟩ := hW
  have hA : DataW.TrodAll enc Try.prog W 0 (fun _ => true) true Try.f3.params.toList args.toList ds p := hA0
  rw [Try.params3] at hA hval
  obtain ⟨v0, vs0, d0, ds0, p0, q0, hargs, rfl, rfl, h0, r0⟩ := trodAll_cons hA
  obtain ⟨rfl, rfl, rfl⟩ := trodAll_nil r0
  obtain rfl : args = #[v0] := by cases args; simp_all
  obtain ⟨rfl, rfl⟩ := trodVars_none hV
  have k0 := h0
  have lt0 : ∀ x ∈ p0, x.block < W.heap.size := by obtain ⟨m, hm⟩ := k0; exact DataW.trod_lt m _ _ _ hm
  obtain ⟨A0, len0, cap0, rfl⟩ := okWide_slice Try.underlying22 (hval 0 22 v0 rfl rfl)
  obtain ⟨xs0, e0⟩ := opens_bytes.of h0
  replace e0 := isSl_of e0
  clear hA0 hval0 hsz0
  refine (law_FnSchemas A0 len0 cap0 xs0 e0 W rfl).mono fun e W' ⟨he, bel⟩ => ?_
  subst he
  exact ⟨_, rfl, _, _, _, [], _, [], hW', trodAll_mk1 (shut_bool Try.underlying4 _), (trodAll_cons_mk (Below.trod laidOut (by kernel_rfl) (of_decide_eq_true (by kernel_rfl)) k0 bel lt0) trodAll_mk0), rfl, Below.frame bel _, fun h => by cases h⟩
theorem jA : (Rows.fnSchemasRow.inPlace == Try.pinned.checked.prog.inPlace 3) = true := by kernel_rfl
theorem jB : (Rows.fnSchemasRow.unfollowed == Try.pinned.checked.prog.unfollowed 3) = true := by kernel_rfl
theorem jC : (Rows.fnSchemasRow.recurses == Try.pinned.checked.prog.recurses 3) = true := by kernel_rfl
theorem jD : (Rows.fnSchemasRow.named == Try.pinned.checked.prog.varsNamed 3) = true := by kernel_rfl
/-- What the row says of the code that is reached, part by part: less memory than all at once. -/
theorem closed : joinedFacts Try.pinned.checked.prog 3 Try.f3 Rows.fnSchemasSpec Rows.fnSchemasRow = true := by
  unfold joinedFacts
  rw [jA, jB, jC, jD]
  kernel_rfl
theorem wrap : Try.f3.isWrapper Try.pinned.checked.prog Rows.fnSchemasRow.wrapper Rows.fnSchemasRow.mainSum := by
  unfold Func.isWrapper; first | (rw [if_pos (by decide +kernel)]; kernel_rfl) | (rw [if_neg (by decide +kernel)]; exact ⟨rfl, rfl⟩)
theorem inst : Try.f3.isInstance Try.pinned.checked.prog Rows.fnSchemasRow.origin Rows.fnSchemasRow.targs := of_decide_eq_true (by kernel_rfl)
theorem nam : Try.pinned.checked.prog.funcNamed Rows.fnSchemasRow.func = some 3 := by kernel_rfl
theorem over : Rows.fnSchemasRow.holds Try.pinned (OpenSpec.ofChange Rows.fnSchemasSpec) :=
  OpenClaim.holds_of_wide 3 Try.f3 rfl rfl rfl rfl rfl rfl rfl ⟨rfl, rfl, rfl, rfl, rfl⟩ rfl rfl rfl rfl rfl nam Try.func3 closed inst wrap
    (fun os started H enc _ => lifted os started H enc)
theorem proved : Rows.FnSchemasSaid := over
#print axioms proved
end Go.Proofs.Ytjeilgogjoidjaa.FnSchemas
namespace Go.Proofs.Ytjeilgogjoidjaa
/-- The row, for the claim. -/
theorem fnSchemas_holds : Rows.FnSchemasSaid := FnSchemas.proved
end Go.Proofs.Ytjeilgogjoidjaa
