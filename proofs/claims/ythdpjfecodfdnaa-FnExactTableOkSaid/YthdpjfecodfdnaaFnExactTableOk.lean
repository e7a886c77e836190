/- The law FnExactTableOk returns true for every table: the program's TableOk and the reference's tell the same, and the table reads as it did. No condition. -/
import Derived.Test.YthdpjfecodfdnaaRows
import Derived.Test.YthdpjfecodfdnaaTabS
import Derived.ProofKit
import Derived.OpenShut
import Derived.ShutString
import Derived.ChangeOld
import Derived.SizedLaws
namespace Go.Proofs.Ythdpjfecodfdnaa
open Go.RowKit
set_option linter.unusedVariables false
set_option linter.unusedSimpArgs false
theorem law_FnExactTableOk (c : Array Value) (t : Table) {W : World} (h0 : Kd.table.rd W (· < W.heap.size) (Value.agg c).cells.toList t) (w : World) (hw : w = W) :
    Calls Try.prog 9 #[.agg c] w (Ret w (.bool true)) := by
  subst hw
  obtain ⟨cs, hcs⟩ : ∃ cs, (Value.agg c).cells.toList = cs := ⟨_, rfl⟩
  obtain rfl := agg_of hcs
  rw [hcs] at h0
  clear hcs
  have h := Lib.hid h0
  obtain ⟨Acols, Lcols, Ccols, Akey, Lkey, Ckey, Auniques, Luniques, Cuniques, Achecks, Lchecks, Cchecks, Afks, Lfks, Cfks, rfl, zname, scols, skey, suniques, schecks, sfks⟩ := h0
  clear zname scols skey suniques schecks sfks
  go_enter Try.func9, Try.ntmps9
  go_wp2_with fail
  generalize hW : World.alloc w _ = W
  obtain ⟨hg, hs', k1⟩ := boxed1 hW
  clear hW
  have hcur := Grow.refl W
  refine (szTable_any 1048576 _ t _ (Kd.grow _ h.out hg) (by decide) (by decide)).mono ?_
  rintro e w1 ⟨r, rfl, hr, hb1⟩
  have hc := hb1.same
  have g1 := hg.trans hb1
  replace hcur := hcur.trans hb1
  rcases hr with rfl | ⟨hr0, hr1, hl⟩
  · go_wp2
    go_ret
    exact ⟨rfl, g1⟩
  go_wp2_with fail
  refine (toTable_any _ t _ (Kd.grow _ h.out g1) hl).mono ?_
  rintro e w2 ⟨c2, rfl, h2, g2⟩
  replace hcur := hcur.trans g2
  replace hc := hcur.same
  go_wp2_with fail
  refine (sTableOk_any _ t _ (fresh_rd h2)).mono ?_
  rintro e w3 ⟨rfl, g3⟩
  replace hcur := hcur.trans g3
  replace hc := hcur.same
  have g03 := g1.trans (g2.trans g3)
  go_wp2_with fail
  refine (toTable_any _ t _ (Kd.grow _ h.out g03) hl).mono ?_
  rintro e w4 ⟨c4, rfl, h4, g4⟩
  replace hcur := hcur.trans g4
  have h4' := Lib.hid h4
  obtain ⟨Bcols, Mcols, Dcols, Bkey, Mkey, Dkey, Buniques, Muniques, Duniques, Bchecks, Mchecks, Dchecks, Bfks, Mfks, Dfks, rfl, -, -, -, -, -, -⟩ := h4
  go_wp2_with fail
  generalize hV : World.alloc w4 _ = V
  obtain ⟨gV, sV, kV⟩ := boxed1 hV
  clear hV
  replace hcur := hcur.trans gV
  have hA := Lib.hid (Kd.grow _ h.out (hg.trans hcur))
  have hX := Lib.hid (Kd.grow _ (fresh_rd h4'.out) gV)
  have kA : ∀ o, V.cell? ⟨w.heap.size, o, none⟩ = _ := fun o => (hcur.same _ _ hs').trans (k1 o)
  have sA : w.heap.size < V.heap.size := Nat.lt_of_lt_of_le hs' hcur.size
  have hwV := hg.trans hcur
  clear hc hcur hb1 hg g1 g2 g3 g4 g03 gV h2 h
  refine (iTableOk_any _ t _ hX.out).mono ?_
  rintro e w5 ⟨rfl, g5⟩
  have hc5 := g5.same
  go_wp2
  go_region_held3 (fun w' => Grow V w' ∧ Same V w') (exact Grow.both (by repeat (with_reducible first | exact Grow.refl _ | assumption | refine Grow.drew ?_ | refine Grow.alloc ?_ _ | refine Grow.set ?_ (by first | exact Nat.le_refl _ | (simp; done) | (simp; omega) | omega) _ | exact And.left (by assumption) | refine Grow.trans ?_ (by assumption)))) (first | (go_at_call 28; refine (toTable_any _ t _ (Kd.grow _ hA.out (And.left (by assumption))) hl).mono ?_; rintro e w6 ⟨c6, rfl, h6, g6⟩) | (go_at_call 30; refine (eqTable_any _ _ t _ (Kd.grow _ hX.out (And.left (by assumption))) (fresh_rd h6)).mono ?_; rintro e w7 ⟨rfl, g7⟩))
  all_goals go_wp2
  all_goals go_ret
  all_goals exact ⟨rfl, hwV.trans (And.left (by assumption))⟩
end Go.Proofs.Ythdpjfecodfdnaa
namespace Go.Proofs.Ythdpjfecodfdnaa.FnExactTableOk
open Go.ChangeShapes Go.WideShapes Go.ChangeAt Go.RowKit
open Go.ChangeMaps (open_string shut_string)
theorem own : ownKnob Try.prog.godebug = none := by kernel_rfl
theorem laidOut : laidOutB Try.prog = true := by kernel_rfl
set_option maxRecDepth 100000 in
theorem lifted (os : Os) (started : os.Started) (H : Type) (enc : TypeId × Value → H) :
    ReturnsInHanded {} Try.checked os 9 .any (Rows.fnExactTableOkSpec.pre6 enc Try.prog Try.f9 Rows.fnExactTableOkRow.domain false) (Rows.fnExactTableOkSpec.post enc Try.prog Try.f9 false true false false) := by
  refine returnsInHanded_of_change_sized (C := Try.checked) own started (by kernel_rfl) Try.func9
    (ChangeSpec.witness6 (enc := enc) (C := Try.checked) false ⟨#[], #[.agg #[.string ⟨#[]⟩, .slice none 0 0, .slice none 0 0, .slice none 0 0, .slice none 0 0, .slice none 0 0]], []⟩ 8 (by kernel_rfl) (by kernel_rfl) (by kernel_rfl) (by kernel_rfl)) ?_
  intro W base args ds gs before hval0 hW hcnd hsz0 _
  have hval : ∀ (j : Nat) t v, Try.f9.params[j]? = some t → args[j]? = some v → Value.okWide Try.prog W .any base t v := hval0
  have hW' := hW
  obtain ⟨p, q, hA0, hV, rfl, hfz, hnd⟩ := hW
  have hA : DataW.TrodAll enc Try.prog W 0 (fun _ => true) true Try.f9.params.toList args.toList ds p := hA0
  rw [Try.params9] at hA hval
  obtain ⟨v0, vs0, d0, ds0, p0, q0, hargs, rfl, rfl, h0, r0⟩ := trodAll_cons hA
  obtain ⟨rfl, rfl, rfl⟩ := trodAll_nil r0
  obtain rfl : args = #[v0] := by cases args; simp_all
  obtain ⟨rfl, rfl⟩ := trodVars_none hV
  have k0 := h0
  have lt0 : ∀ x ∈ p0, x.block < W.heap.size := by obtain ⟨m, hm⟩ := k0; exact DataW.trod_lt m _ _ _ hm
  obtain ⟨c0, rfl, _⟩ := okWide_struct Try.underlying47 (hval 0 47 v0 rfl rfl)
  obtain ⟨a0, e0⟩ := opens_ltable.of h0
  clear hA0 hval0 hsz0
  refine (law_FnExactTableOk c0 a0 e0 W rfl).mono fun e W' ⟨he, bel⟩ => ?_
  subst he
  exact ⟨_, rfl, _, _, _, [], _, [], hW', trodAll_mk1 (shut_bool Try.underlying4 _), (trodAll_cons_mk (Below.trod laidOut (by kernel_rfl) (of_decide_eq_true (by kernel_rfl)) k0 bel lt0) trodAll_mk0), rfl, Below.frame bel _, fun h => by cases h⟩
theorem over : Rows.fnExactTableOkRow.holds Try.pinned (OpenSpec.ofChange Rows.fnExactTableOkSpec) :=
  OpenClaim.holds_of_wide 9 Try.f9 rfl rfl rfl rfl rfl rfl rfl ⟨rfl, rfl, rfl, rfl, rfl⟩ rfl rfl rfl rfl rfl (by kernel_rfl) Try.func9 (by kernel_rfl)
    (of_decide_eq_true (by kernel_rfl)) (by unfold Func.isWrapper; first | (rw [if_pos (by decide +kernel)]; kernel_rfl) | (rw [if_neg (by decide +kernel)]; exact ⟨rfl, rfl⟩))
    (fun os started H enc _ => lifted os started H enc)
theorem proved : Rows.FnExactTableOkSaid := over
#print axioms proved
end Go.Proofs.Ythdpjfecodfdnaa.FnExactTableOk
namespace Go.Proofs.Ythdpjfecodfdnaa
/-- The row, for the claim. -/
theorem fnExactTableOk_holds : Rows.FnExactTableOkSaid := FnExactTableOk.proved
end Go.Proofs.Ythdpjfecodfdnaa
