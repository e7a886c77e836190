/- The law FnExactDbNew returns true for every schema: the program's DbNew and the reference's hand back the same, the argument reads as it did, and the result's memory is its own. No condition. -/
import Derived.Test.YtonijaniaimgaaaGreatRows
import Derived.Test.YtonijaniaimgaaaGreatDbNew
import Derived.Test.YtonijaniaimgaaaGreatMarkS
import Derived.Test.YtonijaniaimgaaaGreatWin
import Derived.ProofKit
import Derived.OpenShut
import Derived.ShutString
import Derived.ChangeOld
import Derived.SizedLaws
namespace Go.Proofs.YtonijaniaimgaaaGreat
open Go.RowKit
set_option linter.unusedVariables false
set_option linter.unusedSimpArgs false
set_option maxHeartbeats 8000000 in
theorem law_FnExactDbNew (A : Option Addr) (la ca : Nat) (s : List Table) {W : World} (hs : IsSl Kd.table W (· < W.heap.size) A la ca s) (w : World) (hw : w = W) :
    Calls Tryz.prog 6 #[.slice A la ca] w (Ret w (.bool true)) := by
  subst hw
  obtain ⟨q, hq⟩ : ∃ q, schemaOkB s = q := ⟨_, rfl⟩
  have HQ := Lib.hid hq
  clear hq
  go_enter Tryz.func6, Tryz.ntmps6
  go_wp2_with fail
  refine (szTableS_any 1048576 _ (hs) (by decide) (by decide)).mono ?_
  rintro e w1 ⟨r1, rfl, hr1, g1⟩
  have G1 : Grow w w1 := g1
  rcases hr1 with rfl | ⟨p1, q1, hl1⟩
  · go_wp2
    go_ret
    exact ⟨rfl, G1⟩
  go_wp2_with fail
  refine (toTableS_any _ (hs.grow G1) hl1).mono ?_
  rintro e w2 ⟨A2, l2, c2, rfl, t2, g2⟩
  have G2 : Grow w w2 := G1.trans g2
  go_wp2_with fail
  refine (sDbNew_any HQ.out _ t2.fresh).mono ?_
  rintro e w3 ⟨A3, l3, c3, rfl, t3, g3⟩
  have G3 : Grow w w3 := G2.trans g3
  go_wp2_with fail
  refine (toTableS_any _ (hs.grow G3) hl1).mono ?_
  rintro e w4 ⟨A4, l4, c4, rfl, t4, g4⟩
  have G4 : Grow w w4 := G3.trans g4
  go_wp2_with fail
  refine (iDbNew_any HQ.out _ t4.fresh).mono ?_
  rintro e w5 ⟨A5, l5, c5, rfl, t5, g5⟩
  have G5 : Grow w w5 := G4.trans g5
  go_wp2_with fail
  refine (eqDataS_any _ t5.fresh (t3.fresh.grow (g4.trans g5))).mono ?_
  rintro e w6 ⟨rfl, g6⟩
  have G6 : Grow w w6 := G5.trans g6
  go_wp2_with fail
  refine (toTableS_any _ (hs.grow G6) hl1).mono ?_
  rintro e w7 ⟨A7, l7, c7, rfl, t7, g7⟩
  have G7 : Grow w w7 := G6.trans g7
  go_wp2_with fail
  refine (eqTableS_any _ (t4.fresh.grow (g5.trans (g6.trans g7))) t7.fresh).mono ?_
  rintro e w8 ⟨rfl, g8⟩
  have G8 : Grow w w8 := G7.trans g8
  have X4 := isSl_inWin t4 (Nat.le_refl _) (Nat.le_refl _) (g5.trans (g6.trans (g7.trans g8)))
  have X5 := isSl_inWin t5 (Nat.le_refl _) (Nat.le_refl _) (g6.trans (g7.trans g8))
  have X3 := isSl_toLow t3 (g4.trans (g5.trans (g6.trans (g7.trans g8))))
  have Zw := G3.size
  have z3 := g3.size
  have z4 := g4.size
  have z5 := g5.size
  have z6 := g6.size
  have z7 := g7.size
  have z8 := g8.size
  go_wp2_with fail
  refine (markTableS_mk 1 rfl _ X4 (by omega)).mono ?_
  rintro e w9 ⟨r9, rfl, lo9, hi9, M9⟩
  have W9 := M9.1
  replace X5 := isSl_winAbove X5 (by omega) W9
  replace X3 := isSl_below X3 (by omega) W9
  have G9 : Grow w w9 := W9.after G8 (by omega)
  have hq0 : ¬ ((r9 : Int) < 0) := by omega
  go_wp2_with fail
  refine (eqDataS_any _ (isSl_win X5) (isSl_low X3)).mono ?_
  rintro e w10 ⟨rfl, g10⟩
  have G10 : Grow w w10 := G9.trans g10
  go_wp2_with fail
  refine (markDataS_nil _ (isSl_winG X5 g10)).mono ?_
  rintro e w11 ⟨rfl, rfl⟩
  have G11 := G10
  go_wp2_with fail
  refine (heldDataS_nil _ (isSl_winG X5 g10)).mono ?_
  rintro e w12 ⟨rfl, rfl⟩
  have G12 := G11
  go_wp2_with fail
  refine (toTableS_any _ (hs.grow G12) hl1).mono ?_
  rintro e w13 ⟨A13, l13, c13, rfl, t13, g13⟩
  have G13 : Grow w w13 := G12.trans g13
  go_wp2_with fail
  refine (iDbNew_any HQ.out _ t13.fresh).mono ?_
  rintro e w14 ⟨A14, l14, c14, rfl, t14, g14⟩
  have G14 : Grow w w14 := G13.trans g14
  have g11 := Grow.refl w10
  have g12 := Grow.refl w10
  go_wp2_with fail
  refine (eqDataS_any _ t14.fresh (isSl_low (isSl_belowG X3 (g10.trans (g13.trans g14))))).mono ?_
  rintro e w15 ⟨rfl, g15⟩
  have G15 : Grow w w15 := G14.trans g15
  go_wp2_with fail
  refine (heldDataS_nil _ (isSl_winG X5 (g10.trans (g13.trans (g14.trans g15))))).mono ?_
  rintro e w16 ⟨rfl, rfl⟩
  go_wp2
  go_ret
  exact ⟨rfl, G15⟩
end Go.Proofs.YtonijaniaimgaaaGreat
namespace Go.Proofs.YtonijaniaimgaaaGreat.FnExactDbNew
open Go.ChangeShapes Go.WideShapes Go.ChangeAt Go.RowKit
open Go.ChangeMaps (open_string shut_string)
theorem own : ownKnob Tryz.prog.godebug = none := by kernel_rfl
theorem laidOut : laidOutB Tryz.prog = true := by kernel_rfl
set_option maxRecDepth 100000 in
theorem lifted (os : Os) (started : os.Started) (H : Type) (enc : TypeId × Value → H) :
    ReturnsInHanded {} Tryz.checked os 6 .any (Rows.fnExactDbNewSpec.pre6 enc Tryz.prog Tryz.f6 Rows.fnExactDbNewRow.domain false) (Rows.fnExactDbNewSpec.post enc Tryz.prog Tryz.f6 false true false false) := by
  refine returnsInHanded_of_change_sized (C := Tryz.checked) own started (by kernel_rfl) Tryz.func6
    (ChangeSpec.witness6 (enc := enc) (C := Tryz.checked) false ⟨#[], #[.slice none 0 0], []⟩ 8 (by kernel_rfl) (by kernel_rfl) (by kernel_rfl) (by kernel_rfl)) ?_
  intro W base args ds gs before hval0 hW hcnd hsz0 _
  have hval : ∀ (j : Nat) t v, Tryz.f6.params[j]? = some t → args[j]? = some v → Value.okWide Tryz.prog W .any base t v := hval0
  have hW' := hW
  obtain ⟨p, q, hA0, hV, rfl, hfz, hnd⟩ := hW
  have hA : DataW.TrodAll enc Tryz.prog W 0 (fun _ => true) true Tryz.f6.params.toList args.toList ds p := hA0
  rw [Tryz.params6] at hA hval
  obtain ⟨v0, vs0, d0, ds0, p0, q0, hargs, rfl, rfl, h0, r0⟩ := trodAll_cons hA
  obtain ⟨rfl, rfl, rfl⟩ := trodAll_nil r0
  obtain rfl : args = #[v0] := by cases args; simp_all
  obtain ⟨rfl, rfl⟩ := trodVars_none hV
  have k0 := h0
  have lt0 : ∀ x ∈ p0, x.block < W.heap.size := by obtain ⟨m, hm⟩ := k0; exact DataW.trod_lt m _ _ _ hm
  obtain ⟨A0, len0, cap0, rfl⟩ := okWide_slice Tryz.underlying22 (hval 0 22 v0 rfl rfl)
  obtain ⟨xs0, e0⟩ := opens_ltables.of h0
  replace e0 := isSl_of e0
  clear hA0 hval0 hsz0
  refine (law_FnExactDbNew A0 len0 cap0 xs0 e0 W rfl).mono fun e W' ⟨he, bel⟩ => ?_
  subst he
  exact ⟨_, rfl, _, _, _, [], _, [], hW', trodAll_mk1 (shut_bool Tryz.underlying4 _), (trodAll_cons_mk (Below.trod laidOut (by kernel_rfl) (of_decide_eq_true (by kernel_rfl)) k0 bel lt0) trodAll_mk0), rfl, Below.frame bel _, fun h => by cases h⟩
theorem over : Rows.fnExactDbNewRow.holds Tryz.pinned (OpenSpec.ofChange Rows.fnExactDbNewSpec) :=
  OpenClaim.holds_of_wide 6 Tryz.f6 rfl rfl rfl rfl rfl rfl rfl ⟨rfl, rfl, rfl, rfl, rfl⟩ rfl rfl rfl rfl rfl (by kernel_rfl) Tryz.func6 (by kernel_rfl)
    (of_decide_eq_true (by kernel_rfl)) (by unfold Func.isWrapper; first | (rw [if_pos (by decide +kernel)]; kernel_rfl) | (rw [if_neg (by decide +kernel)]; exact ⟨rfl, rfl⟩))
    (fun os started H enc _ => lifted os started H enc)
theorem proved : Rows.FnExactDbNewSaid := over
#print axioms proved
end Go.Proofs.YtonijaniaimgaaaGreat.FnExactDbNew
namespace Go.Proofs.YtonijaniaimgaaaGreat
/-- The row, for the claim. -/
theorem fnExactDbNew_holds : Rows.FnExactDbNewSaid := FnExactDbNew.proved
end Go.Proofs.YtonijaniaimgaaaGreat
