/- The law FnExactRefers returns true for every schema and name: the program's Refers and the reference's hand back the same, the schema reads as it did, and the result's memory is its own. No condition. -/
import Derived.Test.YtnnlkeingkmoaaaGreatRows
import Derived.Test.YtnnlkeingkmoaaaGreatRefers
import Derived.Test.YtnnlkeingkmoaaaGreatMarkS
import Derived.Test.YtnnlkeingkmoaaaGreatWin
import Derived.ProofKit
import Derived.OpenShut
import Derived.ShutString
import Derived.ChangeOld
import Derived.SizedLaws
namespace Go.Proofs.YtnnlkeingkmoaaaGreat
open Go.RowKit
set_option linter.unusedVariables false
set_option linter.unusedSimpArgs false
theorem refersV_len (s : List Table) (name : ByteArray) : (refersV s name).length ≤ s.length := by
  unfold refersV refIx
  split
  · exact Nat.le_trans (List.length_filterMap_le _ _) (by simp)
  · exact Nat.zero_le _
set_option maxHeartbeats 4000000 in
theorem law_FnExactRefers (A : Option Addr) (len cap : Nat) (s : List Table) {W : World} (h0 : IsSl Kd.table W (· < W.heap.size) A len cap s) (name : ByteArray) (hname : name.size ≤ maxLen) (w : World) (hw : w = W) :
    Calls Tryz.prog 4 #[.slice A len cap, .string name] w (Ret w (.bool true)) := by
  subst hw
  have hn1 := hname
  unfold maxLen at hn1
  by_cases hl0 : name.size ≤ 1048576
  rotate_left
  · have hb : (1048576 : Int) < (name.size : Int) := by omega
    go_enter Tryz.func4, Tryz.ntmps4
    go_wp2
    go_ret
    exact ⟨rfl, (by repeat (with_reducible first | exact Grow.refl _ | assumption | refine Grow.drew ?_ | refine Grow.alloc ?_ _ | refine Grow.set ?_ (by first | exact Nat.le_refl _ | (simp; done) | (simp; omega) | omega) _ | exact And.left (by assumption) | refine Grow.trans ?_ (by assumption)))⟩
  have hb : ¬ (1048576 : Int) < (name.size : Int) := by omega
  go_enter Tryz.func4, Tryz.ntmps4
  go_wp2_with fail
  refine (szTableS_any 1048576 _ h0 (by decide) (by decide)).mono ?_
  rintro e w1 ⟨r, rfl, hr, g1⟩
  rcases hr with rfl | ⟨hr0, hr1, hsm⟩
  · go_wp2
    go_ret
    exact ⟨rfl, g1⟩
  go_wp2_with fail
  refine (toTableS_any _ (h0.grow g1) hsm).mono ?_
  rintro e w2 ⟨A2, l2, c2, rfl, t2, g2⟩
  go_wp2_with fail
  refine (sRefers_any name _ t2.fresh).mono ?_
  rintro e w3 ⟨A3, l3, c3, rfl, k3, g3⟩
  have g03 := g1.trans (g2.trans g3)
  go_wp2_with fail
  refine (toTableS_any _ (h0.grow g03) hsm).mono ?_
  rintro e w4 ⟨A4, l4, c4, rfl, t4, g4⟩
  go_wp2_with fail
  refine (iRefers_any name _ t4.fresh).mono ?_
  rintro e w5 ⟨A5, l5, c5, rfl, k5, g5⟩
  go_wp2_with fail
  refine (eqInt64S_any _ k5.fresh (k3.fresh.grow (g4.trans g5))).mono ?_
  rintro e w6 ⟨rfl, g6⟩
  go_wp2_with fail
  refine (toTableS_any _ (h0.grow (g03.trans (g4.trans (g5.trans g6)))) hsm).mono ?_
  rintro e w7 ⟨A7, l7, c7, rfl, t7, g7⟩
  go_wp2_with fail
  refine (eqTableS_any _ (t4.fresh.grow (g5.trans (g6.trans g7))) t7.fresh).mono ?_
  rintro e w8 ⟨rfl, g8⟩
  have H5 : Grow w5 w8 := g6.trans (g7.trans g8)
  have H4 : Grow w4 w8 := g5.trans H5
  have H3 : Grow w3 w8 := g4.trans H4
  have H0 : Grow w w8 := g03.trans H3
  have z0 := g03.size
  have z3 := g4.size
  have z4 := g5.size
  have hk5 : l5 ≤ 1048576 := by have := refersV_len s name; rw [k5.1] at this; have := hsm.1; omega
  go_wp2_with fail
  refine (markTableS_mk 1 rfl _ (isSl_inWin t4 (Nat.le_refl _) (Nat.le_refl _) H4) (by omega)).mono ?_
  rintro e w9 ⟨r9, rfl, lo9, hi9, M9⟩
  have hq0 : ¬ ((r9 : Int) < 0) := by omega
  have W9 := M9.1
  have K5 := isSl_winAbove (isSl_inWin k5 (Nat.le_refl _) (Nat.le_refl _) H5) (Nat.le_refl _) W9
  have K3 := isSl_below (isSl_toLow k3 H3) (Nat.le_refl _) W9
  have H9 : Grow w w9 := W9.after H0 z0
  go_wp2_with fail
  refine (eqInt64S_any _ (isSl_win K5) (isSl_low K3)).mono ?_
  rintro e w10 ⟨rfl, g10⟩
  go_wp2_with fail
  refine (markInt64S_eq 1 rfl _ (isSl_winG K5 g10) (by omega)).mono ?_
  rintro e w11 ⟨rfl, W11, m11⟩
  have H11 : Grow w w11 := W11.after (H9.trans g10) (Nat.le_trans z0 z3)
  have K3b := isSl_below (isSl_belowG K3 g10) z3 W11
  have hq1 : ¬ ((1 : Int) + (l5 : Int) < 0) := by omega
  go_wp2_with fail
  refine (heldInt64S_eq 1 rfl _ (isSl_win m11) (by omega)).mono ?_
  rintro e w12 ⟨rfl, rfl⟩
  go_wp2_with fail
  refine (toTableS_any _ (h0.grow H11) hsm).mono ?_
  rintro e w13 ⟨A13, l13, c13, rfl, t13, g13⟩
  go_wp2_with fail
  refine (iRefers_any name _ t13.fresh).mono ?_
  rintro e w14 ⟨A14, l14, c14, rfl, k14, g14⟩
  have g1114 := g13.trans g14
  go_wp2_with fail
  refine (eqInt64S_any _ k14.fresh (isSl_low (isSl_belowG K3b g1114))).mono ?_
  rintro e w15 ⟨rfl, g15⟩
  go_wp2_with fail
  refine (heldInt64S_eq 1 rfl _ ((isSl_win m11).grow (g1114.trans g15)) (by omega)).mono ?_
  rintro e w16 ⟨rfl, rfl⟩
  go_wp2
  go_ret
  exact ⟨rfl, H11.trans (g1114.trans g15)⟩
end Go.Proofs.YtnnlkeingkmoaaaGreat
namespace Go.Proofs.YtnnlkeingkmoaaaGreat.FnExactRefers
open Go.ChangeShapes Go.WideShapes Go.ChangeAt Go.RowKit
open Go.ChangeMaps (open_string shut_string)
theorem own : ownKnob Tryz.prog.godebug = none := by kernel_rfl
theorem laidOut : laidOutB Tryz.prog = true := by kernel_rfl
set_option maxRecDepth 100000 in
theorem lifted (os : Os) (started : os.Started) (H : Type) (enc : TypeId × Value → H) :
    ReturnsInHanded {} Tryz.checked os 4 .any (Rows.fnExactRefersSpec.pre6 enc Tryz.prog Tryz.f4 Rows.fnExactRefersRow.domain false) (Rows.fnExactRefersSpec.post enc Tryz.prog Tryz.f4 false true false false) := by
  refine returnsInHanded_of_change_sized (C := Tryz.checked) own started (by kernel_rfl) Tryz.func4
    (ChangeSpec.witness6 (enc := enc) (C := Tryz.checked) false ⟨#[], #[.slice none 0 0, .string ⟨#[]⟩], []⟩ 8 (by kernel_rfl) (by kernel_rfl) (by kernel_rfl) (by kernel_rfl)) ?_
  intro W base args ds gs before hval0 hW hcnd hsz0 _
  have hval : ∀ (j : Nat) t v, Tryz.f4.params[j]? = some t → args[j]? = some v → Value.okWide Tryz.prog W .any base t v := hval0
  have hW' := hW
  obtain ⟨p, q, hA0, hV, rfl, hfz, hnd⟩ := hW
  have hA : DataW.TrodAll enc Tryz.prog W 0 (fun _ => true) true Tryz.f4.params.toList args.toList ds p := hA0
  rw [Tryz.params4] at hA hval
  obtain ⟨v0, vs0, d0, ds0, p0, q0, hargs, rfl, rfl, h0, r0⟩ := trodAll_cons hA
  obtain ⟨v1, vs1, d1, ds1, p1, q1, rfl, rfl, rfl, h1, r1⟩ := trodAll_cons r0
  obtain ⟨rfl, rfl, rfl⟩ := trodAll_nil r1
  obtain rfl : args = #[v0, v1] := by cases args; simp_all
  obtain ⟨rfl, rfl⟩ := trodVars_none hV
  have k0 := h0
  have lt0 : ∀ x ∈ p0, x.block < W.heap.size := by obtain ⟨m, hm⟩ := k0; exact DataW.trod_lt m _ _ _ hm
  have k1 := h1
  have lt1 : ∀ x ∈ p1, x.block < W.heap.size := by obtain ⟨m, hm⟩ := k1; exact DataW.trod_lt m _ _ _ hm
  obtain ⟨A0, len0, cap0, rfl⟩ := okWide_slice Tryz.underlying31 (hval 0 31 v0 rfl rfl)
  obtain ⟨xs0, e0⟩ := opens_ltables.of h0
  replace e0 := isSl_of e0
  obtain ⟨s1, rfl, _, _, hs1⟩ := open_string Tryz.underlying9 (hval 1 9 v1 rfl rfl) h1
  clear hA0 hval0 hsz0
  refine (law_FnExactRefers A0 len0 cap0 xs0 e0 s1 hs1 W rfl).mono fun e W' ⟨he, bel⟩ => ?_
  subst he
  exact ⟨_, rfl, _, _, _, [], _, [], hW', trodAll_mk1 (shut_bool Tryz.underlying4 _), (trodAll_cons_mk (Below.trod laidOut (by kernel_rfl) (of_decide_eq_true (by kernel_rfl)) k0 bel lt0) (trodAll_cons_mk (Below.trod laidOut (by kernel_rfl) (of_decide_eq_true (by kernel_rfl)) k1 bel lt1) trodAll_mk0)), rfl, Below.frame bel _, fun h => by cases h⟩
theorem over : Rows.fnExactRefersRow.holds Tryz.pinned (OpenSpec.ofChange Rows.fnExactRefersSpec) :=
  OpenClaim.holds_of_wide 4 Tryz.f4 rfl rfl rfl rfl rfl rfl rfl ⟨rfl, rfl, rfl, rfl, rfl⟩ rfl rfl rfl rfl rfl (by kernel_rfl) Tryz.func4 (by kernel_rfl)
    (of_decide_eq_true (by kernel_rfl)) (by unfold Func.isWrapper; first | (rw [if_pos (by decide +kernel)]; kernel_rfl) | (rw [if_neg (by decide +kernel)]; exact ⟨rfl, rfl⟩))
    (fun os started H enc _ => lifted os started H enc)
theorem proved : Rows.FnExactRefersSaid := over
#print axioms proved
end Go.Proofs.YtnnlkeingkmoaaaGreat.FnExactRefers
namespace Go.Proofs.YtnnlkeingkmoaaaGreat
/-- The row, for the claim. -/
theorem fnExactRefers_holds : Rows.FnExactRefersSaid := FnExactRefers.proved
end Go.Proofs.YtnnlkeingkmoaaaGreat
