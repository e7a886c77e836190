/- The law FnExactRowOk returns true for every table and values: the program's RowOk and the reference's tell the same, and the arguments read as they did. No condition. -/
import Derived.Test.YtnnlkeingkmoaabGreatRows
import Derived.Test.YtnnlkeingkmoaabGreatFit
import Derived.ProofKit
import Derived.OpenShut
import Derived.ShutString
import Derived.ChangeOld
import Derived.SizedLaws
namespace Go.Proofs.YtnnlkeingkmoaabGreat
open Go.RowKit
set_option linter.unusedVariables false
set_option linter.unusedSimpArgs false
set_option maxHeartbeats 2000000 in
theorem law_FnExactRowOk (c : Array Value) (t : Table) {W : World} (h0 : Kd.table.rd W (· < W.heap.size) (Value.agg c).cells.toList t) (B : Option Addr) (lb cb : Nat) (vals : List Val) (hv : IsSl Kd.val W (· < W.heap.size) B lb cb vals) (w : World) (hw : w = W) :
    Calls Tryz.prog 3 #[.agg c, .slice B lb cb] w (Ret w (.bool true)) := by
  subst hw
  obtain ⟨cs, hcs⟩ : ∃ cs, (Value.agg c).cells.toList = cs := ⟨_, rfl⟩
  obtain rfl := agg_of hcs
  rw [hcs] at h0
  clear hcs
  have h := Lib.hid h0
  obtain ⟨Acols, Lcols, Ccols, Akey, Lkey, Ckey, Auniques, Luniques, Cuniques, Achecks, Lchecks, Cchecks, Afks, Lfks, Cfks, rfl, zname, scols, skey, suniques, schecks, sfks⟩ := h0
  clear zname scols skey suniques schecks sfks
  go_enter Tryz.func3, Tryz.ntmps3
  go_wp2_with fail
  generalize hW : World.alloc w _ = W
  obtain ⟨hg, hs', k1⟩ := boxed1 hW
  clear hW
  have hcur := Grow.refl W
  refine (szTable_any 1048576 _ t _ (Kd.grow _ h.out hg) (by decide) (by decide)).mono ?_
  rintro e w1 ⟨r, rfl, hr, hb1⟩
  have hc := hb1.same
  have g1 := hg.trans hb1
  replace hcur := hcur.trans hb1
  rcases hr with rfl | ⟨hr0, hr1, hl⟩
  · go_wp2
    go_ret
    exact ⟨rfl, g1⟩
  go_wp2_with fail
  refine (szValS_any r _ (hv.grow g1) hr0 (by omega)).mono ?_
  rintro e w1b ⟨r2, rfl, hr2, hb1b⟩
  replace hcur := hcur.trans hb1b
  replace hc := hcur.same
  replace g1 := g1.trans hb1b
  rcases hr2 with rfl | ⟨hq0, hq1, hlv⟩
  · go_wp2
    go_ret
    exact ⟨rfl, g1⟩
  go_wp2_with fail
  refine (toTable_any _ t _ (Kd.grow _ h.out g1) hl).mono ?_
  rintro e w2 ⟨c2, rfl, h2, g2⟩
  replace hcur := hcur.trans g2
  replace hc := hcur.same
  go_wp2_with fail
  refine (toValS_any _ (hv.grow (g1.trans g2)) hlv).mono ?_
  rintro e w2b ⟨A2, l2, q2, rfl, v2, g2b⟩
  replace hcur := hcur.trans g2b
  replace hc := hcur.same
  go_wp2_with fail
  refine (sRowOk_any _ t _ (Kd.table.grow (fresh_rd h2) g2b) v2.fresh).mono ?_
  rintro e w3 ⟨rfl, g3⟩
  replace hcur := hcur.trans g3
  replace hc := hcur.same
  have g03 := g1.trans (g2.trans (g2b.trans g3))
  go_wp2_with fail
  refine (toTable_any _ t _ (Kd.grow _ h.out g03) hl).mono ?_
  rintro e w4 ⟨c4, rfl, h4, g4⟩
  replace hcur := hcur.trans g4
  have h4' := Lib.hid h4
  obtain ⟨Bcols, Mcols, Dcols, Bkey, Mkey, Dkey, Buniques, Muniques, Duniques, Bchecks, Mchecks, Dchecks, Bfks, Mfks, Dfks, rfl, -, -, -, -, -, -⟩ := h4
  go_wp2_with fail
  generalize hV : World.alloc w4 _ = V
  obtain ⟨gV, sV, kV⟩ := boxed1 hV
  clear hV
  replace hcur := hcur.trans gV
  have hX := Lib.hid (Kd.grow _ (fresh_rd h4'.out) gV)
  have hwV := hg.trans hcur
  refine (toValS_any _ (hv.grow hwV) hlv).mono ?_
  rintro e w5 ⟨A5, l5, q5, rfl, v5, g5⟩
  replace hcur := hcur.trans g5
  have hc5 := g5.same
  go_wp2_with fail
  refine (iRowOk_any _ t _ (Kd.table.grow hX.out g5) v5.fresh).mono ?_
  rintro e w6 ⟨rfl, g6⟩
  replace hcur := hcur.trans g6
  have g56 := g5.trans g6
  have hA := Lib.hid (Kd.grow _ h.out (hg.trans hcur))
  have hX6 := Lib.hid (Kd.table.grow hX.out g56)
  have kA : ∀ o, w6.cell? ⟨w.heap.size, o, none⟩ = _ := fun o => (hcur.same _ _ hs').trans (k1 o)
  have sA : w.heap.size < w6.heap.size := Nat.lt_of_lt_of_le hs' hcur.size
  have kX : ∀ o, w6.cell? ⟨w4.heap.size, o, none⟩ = _ := fun o => (g56.same _ _ sV).trans (kV o)
  have sX : w4.heap.size < w6.heap.size := Nat.lt_of_lt_of_le sV g56.size
  have hw6 := hg.trans hcur
  have HV5 := Lib.hid (v5.fresh.grow g6)
  clear hc hcur hb1 hg g1 g2 g3 g4 g03 gV h2 h g56 hc5 v2 v5
  go_wp2
  go_region_held3 (fun w' => Grow w6 w' ∧ Same w6 w') (exact Grow.both (by repeat (with_reducible first | exact Grow.refl _ | assumption | refine Grow.drew ?_ | refine Grow.alloc ?_ _ | refine Grow.set ?_ (by first | exact Nat.le_refl _ | (simp; done) | (simp; omega) | omega) _ | exact And.left (by assumption) | refine Grow.trans ?_ (by assumption)))) (first | (go_at_call 15; refine (toTable_any _ t _ (Kd.grow _ hA.out (And.left (by assumption))) hl).mono ?_; rintro e w7 ⟨c6, rfl, h6, g7⟩) | (go_at_call 18; refine (eqTable_any _ _ t _ (Kd.grow _ hX6.out (And.left (by assumption))) (fresh_rd h6)).mono ?_; rintro e w8 ⟨rfl, g8⟩))
  all_goals obtain ⟨gE, _⟩ : Grow w6 w8 ∧ Same w6 w8 := by assumption
  all_goals go_wp2_with fail
  all_goals refine (toValS_any _ (hv.grow (hw6.trans gE)) hlv).mono ?_
  all_goals rintro e w9 ⟨A9, l9, q9, rfl, v9, g9⟩
  all_goals go_wp2_with fail
  all_goals refine (eqValS_any _ (HV5.out.grow (gE.trans g9)) v9.fresh).mono ?_
  all_goals rintro e w10 ⟨rfl, g10⟩
  all_goals go_wp2
  all_goals go_ret
  all_goals exact ⟨rfl, hw6.trans (gE.trans (g9.trans g10))⟩
end Go.Proofs.YtnnlkeingkmoaabGreat
namespace Go.Proofs.YtnnlkeingkmoaabGreat.FnExactRowOk
open Go.ChangeShapes Go.WideShapes Go.ChangeAt Go.RowKit
open Go.ChangeMaps (open_string shut_string)
theorem own : ownKnob Tryz.prog.godebug = none := by kernel_rfl
theorem laidOut : laidOutB Tryz.prog = true := by kernel_rfl
set_option maxRecDepth 100000 in
theorem lifted (os : Os) (started : os.Started) (H : Type) (enc : TypeId × Value → H) :
    ReturnsInHanded {} Tryz.checked os 3 .any (Rows.fnExactRowOkSpec.pre6 enc Tryz.prog Tryz.f3 Rows.fnExactRowOkRow.domain false) (Rows.fnExactRowOkSpec.post enc Tryz.prog Tryz.f3 false true false false) := by
  refine returnsInHanded_of_change_sized (C := Tryz.checked) own started (by kernel_rfl) Tryz.func3
    (ChangeSpec.witness6 (enc := enc) (C := Tryz.checked) false ⟨#[], #[.agg #[.string ⟨#[]⟩, .slice none 0 0, .slice none 0 0, .slice none 0 0, .slice none 0 0, .slice none 0 0], .slice none 0 0], []⟩ 8 (by kernel_rfl) (by kernel_rfl) (by kernel_rfl) (by kernel_rfl)) ?_
  intro W base args ds gs before hval0 hW hcnd hsz0 _
  have hval : ∀ (j : Nat) t v, Tryz.f3.params[j]? = some t → args[j]? = some v → Value.okWide Tryz.prog W .any base t v := hval0
  have hW' := hW
  obtain ⟨p, q, hA0, hV, rfl, hfz, hnd⟩ := hW
  have hA : DataW.TrodAll enc Tryz.prog W 0 (fun _ => true) true Tryz.f3.params.toList args.toList ds p := hA0
  rw [Tryz.params3] at hA hval
  obtain ⟨v0, vs0, d0, ds0, p0, q0, hargs, rfl, rfl, h0, r0⟩ := trodAll_cons hA
  obtain ⟨v1, vs1, d1, ds1, p1, q1, rfl, rfl, rfl, h1, r1⟩ := trodAll_cons r0
  obtain ⟨rfl, rfl, rfl⟩ := trodAll_nil r1
  obtain rfl : args = #[v0, v1] := by cases args; simp_all
  obtain ⟨rfl, rfl⟩ := trodVars_none hV
  have k0 := h0
  have lt0 : ∀ x ∈ p0, x.block < W.heap.size := by obtain ⟨m, hm⟩ := k0; exact DataW.trod_lt m _ _ _ hm
  have k1 := h1
  have lt1 : ∀ x ∈ p1, x.block < W.heap.size := by obtain ⟨m, hm⟩ := k1; exact DataW.trod_lt m _ _ _ hm
  obtain ⟨c0, rfl, _⟩ := okWide_struct Tryz.underlying28 (hval 0 28 v0 rfl rfl)
  obtain ⟨a0, e0⟩ := opens_ltable.of h0
  obtain ⟨A1, len1, cap1, rfl⟩ := okWide_slice Tryz.underlying29 (hval 1 29 v1 rfl rfl)
  obtain ⟨xs1, e1⟩ := opens_lvals.of h1
  replace e1 := isSl_of e1
  clear hA0 hval0 hsz0
  refine (law_FnExactRowOk c0 a0 e0 A1 len1 cap1 xs1 e1 W rfl).mono fun e W' ⟨he, bel⟩ => ?_
  subst he
  exact ⟨_, rfl, _, _, _, [], _, [], hW', trodAll_mk1 (shut_bool Tryz.underlying4 _), (trodAll_cons_mk (Below.trod laidOut (by kernel_rfl) (of_decide_eq_true (by kernel_rfl)) k0 bel lt0) (trodAll_cons_mk (Below.trod laidOut (by kernel_rfl) (of_decide_eq_true (by kernel_rfl)) k1 bel lt1) trodAll_mk0)), rfl, Below.frame bel _, fun h => by cases h⟩
theorem over : Rows.fnExactRowOkRow.holds Tryz.pinned (OpenSpec.ofChange Rows.fnExactRowOkSpec) :=
  OpenClaim.holds_of_wide 3 Tryz.f3 rfl rfl rfl rfl rfl rfl rfl ⟨rfl, rfl, rfl, rfl, rfl⟩ rfl rfl rfl rfl rfl (by kernel_rfl) Tryz.func3 (by kernel_rfl)
    (of_decide_eq_true (by kernel_rfl)) (by unfold Func.isWrapper; first | (rw [if_pos (by decide +kernel)]; kernel_rfl) | (rw [if_neg (by decide +kernel)]; exact ⟨rfl, rfl⟩))
    (fun os started H enc _ => lifted os started H enc)
theorem proved : Rows.FnExactRowOkSaid := over
#print axioms proved
end Go.Proofs.YtnnlkeingkmoaabGreat.FnExactRowOk
namespace Go.Proofs.YtnnlkeingkmoaabGreat
/-- The row, for the claim. -/
theorem fnExactRowOk_holds : Rows.FnExactRowOkSaid := FnExactRowOk.proved
end Go.Proofs.YtnnlkeingkmoaabGreat
