/- The law FnExactKeyOf returns true for all columns and values: the program's KeyOf and the reference's hand back the same, the arguments read as they did, and the result's memory is its own. No condition. -/
import Derived.Test.YthdpjfecodfdnaaRows
import Derived.Test.YthdpjfecodfdnaaKeyOf
import Derived.Test.YthdpjfecodfdnaaMarks
import Derived.ProofKit
import Derived.OpenShut
import Derived.ShutString
import Derived.ChangeOld
import Derived.SizedLaws
namespace Go.Proofs.Ythdpjfecodfdnaa
open Go.RowKit
set_option linter.unusedVariables false
set_option linter.unusedSimpArgs false
theorem kOf_len (cols : List Int) (vals : List Val) : (kOf cols vals).length ≤ cols.length := by
  unfold kOf keyV
  split <;> simp
theorem InWin.of {B B' C : Nat} {w w' : World} {b : Nat} (h : Fresh B w b) (hB : B' ≤ B) (hC : w.heap.size ≤ C) (hg : Grow w w') : InWin B' C w' b :=
  ⟨(h.grow hg).low hB, Nat.lt_of_lt_of_le h.2.1 hC⟩
theorem isSl_inWin {α : Type} {k : Kd α} {B B' C : Nat} {w w' : World} {A : Option Addr} {len cap : Nat} {xs : List α} (h : IsSl k w (Fresh B w) A len cap xs) (hB : B' ≤ B) (hC : w.heap.size ≤ C) (hg : Grow w w') : IsSl k w' (InWin B' C w') A len cap xs :=
  h.mono (fun b hb => InWin.of hb hB hC hg) (fun b hb => hg.block hb.2.1)
theorem isSl_above {α : Type} {k : Kd α} {B C D : Nat} {w w' : World} {A : Option Addr} {len cap : Nat} {xs : List α} (h : IsSl k w (Fresh D w) A len cap xs) (hD : C ≤ D) (hw : Win B C w w') : IsSl k w' (Fresh D w') A len cap xs :=
  h.mono (fun b hb => ⟨hb.1, Nat.lt_of_lt_of_le hb.2.1 hw.2.1, fun o => (hw.2.2.2 b o hb.2.1).trans (hb.2.2 o)⟩) (fun b hb => hw.2.2.1 b hb.2.1 (.inr (Nat.le_trans hD hb.1)))
theorem isSl_below {α : Type} {k : Kd α} {B C D : Nat} {w w' : World} {A : Option Addr} {len cap : Nat} {xs : List α} (h : IsSl k w (fun b => b < w.heap.size ∧ b < D) A len cap xs) (hD : D ≤ B) (hw : Win B C w w') : IsSl k w' (fun b => b < w'.heap.size ∧ b < D) A len cap xs :=
  h.mono (fun b hb => ⟨Nat.lt_of_lt_of_le hb.1 hw.2.1, hb.2⟩) (fun b hb => hw.2.2.1 b hb.1 (.inl (Nat.lt_of_lt_of_le hb.2 hD)))
theorem isSl_belowG {α : Type} {k : Kd α} {D : Nat} {w w' : World} {A : Option Addr} {len cap : Nat} {xs : List α} (h : IsSl k w (fun b => b < w.heap.size ∧ b < D) A len cap xs) (hg : Grow w w') : IsSl k w' (fun b => b < w'.heap.size ∧ b < D) A len cap xs :=
  h.mono (fun b hb => ⟨Nat.lt_of_lt_of_le hb.1 hg.size, hb.2⟩) (fun b hb => hg.block hb.1)
theorem isSl_winAbove {α : Type} {k : Kd α} {B C B' C' : Nat} {w w' : World} {A : Option Addr} {len cap : Nat} {xs : List α} (h : IsSl k w (InWin B' C' w) A len cap xs) (hD : C ≤ B') (hw : Win B C w w') : IsSl k w' (InWin B' C' w') A len cap xs :=
  h.mono (fun b hb => hb.win hw) (fun b hb => hw.2.2.1 b hb.1.2.1 (.inr (Nat.le_trans hD hb.1.1)))
theorem isSl_winG {α : Type} {k : Kd α} {B' C' : Nat} {w w' : World} {A : Option Addr} {len cap : Nat} {xs : List α} (h : IsSl k w (InWin B' C' w) A len cap xs) (hg : Grow w w') : IsSl k w' (InWin B' C' w') A len cap xs :=
  h.mono (fun b hb => ⟨hb.1.grow hg, hb.2⟩) (fun b hb => hg.block hb.1.2.1)
theorem isSl_win {α : Type} {k : Kd α} {B C : Nat} {w : World} {A : Option Addr} {len cap : Nat} {xs : List α} (h : IsSl k w (InWin B C w) A len cap xs) : IsSl k w (· < w.heap.size) A len cap xs :=
  h.mono (fun b hb => hb.1.2.1) (fun _ _ => rfl)
theorem isSl_low {α : Type} {k : Kd α} {D : Nat} {w : World} {A : Option Addr} {len cap : Nat} {xs : List α} (h : IsSl k w (fun b => b < w.heap.size ∧ b < D) A len cap xs) : IsSl k w (· < w.heap.size) A len cap xs :=
  h.mono (fun b hb => hb.1) (fun _ _ => rfl)
theorem markValS_eq {B C : Nat} {A : Option Addr} {len cap : Nat} {xs : List Val} (k : Nat) {z : Int} (hz : z = (k : Int)) (w : World) (h : IsSl Kd.val w (InWin B C w) A len cap xs) (hC : C ≤ w.heap.size) (hk : k + 3 * len ≤ 2 ^ 62) :
    Calls Try.prog 24 #[.slice A len cap, .int .i64 z] w (fun e w' => e = .returned (.int .i64 ((k : Int) + 3 * (len : Int))) ∧ Win B C w w' ∧ IsSl Kd.val w' (InWin B C w') A len cap (mVals k xs len)) := by
  subst hz; exact markValS_any k w h hC hk
theorem markInt64S_eq {B C : Nat} {A : Option Addr} {len cap : Nat} {xs : List Int} (k : Nat) {z : Int} (hz : z = (k : Int)) (w : World) (h : IsSl Kd.int w (InWin B C w) A len cap xs) (hk : k + len ≤ 2 ^ 62) :
    Calls Try.prog 23 #[.slice A len cap, .int .i64 z] w (fun e w' => e = .returned (.int .i64 ((k : Int) + (len : Int))) ∧ Win B C w w' ∧ IsSl Kd.int w' (InWin B C w') A len cap (mInts k xs len)) := by
  subst hz; exact markInt64S_any k w h hk
theorem heldValS_eq {A : Option Addr} {len cap : Nat} {xs : List Val} (k : Nat) {z : Int} (hz : z = (k : Int)) (w : World) (h : IsSl Kd.val w (· < w.heap.size) A len cap (mVals k xs len)) (hk : k + 3 * len ≤ 2 ^ 62) :
    Calls Try.prog 25 #[.slice A len cap, .int .i64 z] w (Ret w (.int .i64 ((k : Int) + 3 * (len : Int)))) := by
  subst hz; exact heldValS_any k w h hk
set_option maxHeartbeats 4000000 in
theorem law_FnExactKeyOf (A : Option Addr) (len cap : Nat) (cols : List Int) {W : World} (h0 : IsSl Kd.int W (· < W.heap.size) A len cap cols) (B : Option Addr) (len' cap' : Nat) (vals : List Val) (h1 : IsSl Kd.val W (· < W.heap.size) B len' cap' vals) (w : World) (hw : w = W) :
    Calls Try.prog 4 #[.slice A len cap, .slice B len' cap'] w (Ret w (.bool true)) := by
  subst hw
  have hlen : len ≤ maxLen := Nat.le_trans h0.2.1 h0.2.2.1
  unfold maxLen at hlen
  by_cases hl0 : len ≤ 1048576
  rotate_left
  · have hb : (1048576 : Int) < (len : Int) := by omega
    go_enter Try.func4, Try.ntmps4
    go_wp2
    go_ret
    exact ⟨rfl, (by repeat (with_reducible first | exact Grow.refl _ | assumption | refine Grow.drew ?_ | refine Grow.alloc ?_ _ | refine Grow.set ?_ (by first | exact Nat.le_refl _ | (simp; done) | (simp; omega) | omega) _ | exact And.left (by assumption) | refine Grow.trans ?_ (by assumption)))⟩
  have hb : ¬ (1048576 : Int) < (len : Int) := by omega
  have hsi : SmL smInt cols := ⟨by rw [h0.1]; exact hl0, fun _ _ => trivial⟩
  go_enter Try.func4, Try.ntmps4
  go_wp2_with fail
  refine (szValS_any 1048576 _ h1 (by decide) (by decide)).mono ?_
  rintro e w1 ⟨r, rfl, hr, g1⟩
  rcases hr with rfl | ⟨hr0, hr1, hsv⟩
  · go_wp2
    go_ret
    exact ⟨rfl, g1⟩
  go_wp2_with fail
  refine (toInt64S_any _ (h0.grow g1) hsi).mono ?_
  rintro e w2 ⟨A2, l2, c2, rfl, i2, g2⟩
  obtain rfl : len = l2 := h0.1.symm.trans i2.1
  go_wp2_with fail
  refine (toValS_any _ (h1.grow (g1.trans g2)) hsv).mono ?_
  rintro e w3 ⟨A3, l3, c3, rfl, v3, g3⟩
  go_wp2_with fail
  refine (sKeyOf_any _ (i2.fresh.grow g3) v3.fresh hl0).mono ?_
  rintro e w4 ⟨A4, l4, c4, rfl, k4, g4⟩
  have g04 := g1.trans (g2.trans (g3.trans g4))
  go_wp2_with fail
  refine (toInt64S_any _ (h0.grow g04) hsi).mono ?_
  rintro e w5 ⟨A5, l5, c5, rfl, i5, g5⟩
  obtain rfl : len = l5 := h0.1.symm.trans i5.1
  go_wp2_with fail
  refine (toValS_any _ (h1.grow (g04.trans g5)) hsv).mono ?_
  rintro e w6 ⟨A6, l6, c6, rfl, v6, g6⟩
  go_wp2_with fail
  refine (iKeyOf_any _ (i5.fresh.grow g6) v6.fresh hl0).mono ?_
  rintro e w7 ⟨A7, l7, c7, rfl, k7, g7⟩
  go_wp2_with fail
  refine (eqValS_any _ k7.fresh (k4.fresh.grow (g5.trans (g6.trans g7)))).mono ?_
  rintro e w8 ⟨rfl, g8⟩
  go_wp2_with fail
  refine (toInt64S_any _ (h0.grow (g04.trans (g5.trans (g6.trans (g7.trans g8))))) hsi).mono ?_
  rintro e w9 ⟨A9, l9, c9, rfl, i9, g9⟩
  go_wp2_with fail
  refine (eqInt64S_any _ (i5.fresh.grow (g6.trans (g7.trans (g8.trans g9)))) i9.fresh).mono ?_
  rintro e w10 ⟨rfl, g10⟩
  have G7 := g7.trans (g8.trans (g9.trans g10))
  go_wp2_with fail
  refine (toValS_any _ (h1.grow (g04.trans (g5.trans (g6.trans G7)))) hsv).mono ?_
  rintro e w11 ⟨A11, l11, c11, rfl, v11, g11⟩
  go_wp2_with fail
  refine (eqValS_any _ (v6.fresh.grow (G7.trans g11)) v11.fresh).mono ?_
  rintro e w12 ⟨rfl, g12⟩
  have H7 : Grow w7 w12 := g8.trans (g9.trans (g10.trans (g11.trans g12)))
  have H6 : Grow w6 w12 := g7.trans H7
  have H5 : Grow w5 w12 := g6.trans H6
  have H4 : Grow w4 w12 := g5.trans H5
  have H0 : Grow w w12 := g04.trans H4
  have hv6 : l6 ≤ 1048576 := by rw [← v6.1]; exact hsv.1
  have hk7 : l7 ≤ 1048576 := by have := kOf_len cols vals; rw [k7.1, h0.1] at this; omega
  have z0 := g04.size
  have z4 := g5.size
  have z5 := g6.size
  have z6 := g7.size
  go_wp2_with fail
  refine (markInt64S_eq 1 rfl _ (isSl_inWin i5 (Nat.le_refl _) (Nat.le_refl _) H5) (by omega)).mono ?_
  rintro e w13 ⟨rfl, W13, -⟩
  go_wp2_with fail
  refine (markValS_eq (1 + len) (by omega) _ (isSl_winAbove (isSl_inWin v6 (Nat.le_refl _) (Nat.le_refl _) H6) (Nat.le_refl _) W13) (Nat.le_trans H6.size W13.2.1) (by omega)).mono ?_
  rintro e w14 ⟨rfl, W14, -⟩
  have hq0 : ¬ ((1 : Int) + (len : Int) + 3 * (l6 : Int) < 0) := by omega
  have K7 := isSl_winAbove (isSl_winAbove (isSl_inWin k7 (Nat.le_refl _) (Nat.le_refl _) H7) z5 W13) (Nat.le_refl _) W14
  have K4 := isSl_below (isSl_below (k4.mono (S' := fun b => b < w12.heap.size ∧ b < w4.heap.size) (fun b hb => ⟨Nat.lt_of_lt_of_le hb.2.1 H4.size, hb.2.1⟩) (fun b hb => H4.block hb.2.1)) (Nat.le_refl _) W13) z4 W14
  have H14 : Grow w w14 := W14.after (W13.after H0 z0) (Nat.le_trans z0 z4)
  go_wp2_with fail
  refine (eqValS_any _ (isSl_win K7) (isSl_low K4)).mono ?_
  rintro e w15 ⟨rfl, g15⟩
  go_wp2_with fail
  refine (markValS_eq 1 rfl _ (isSl_winG K7 g15) (Nat.le_trans H7.size (Nat.le_trans W13.2.1 (Nat.le_trans W14.2.1 g15.size))) (by omega)).mono ?_
  rintro e w16 ⟨rfl, W16, m16⟩
  have H16 : Grow w w16 := W16.after (H14.trans g15) (Nat.le_trans z0 (Nat.le_trans z4 z5))
  have K4b := isSl_below (isSl_belowG K4 g15) (Nat.le_trans z4 z5) W16
  have hq1 : ¬ ((1 : Int) + 3 * (l7 : Int) < 0) := by omega
  go_wp2_with fail
  refine (heldValS_eq 1 rfl _ (isSl_win m16) (by omega)).mono ?_
  rintro e w17 ⟨rfl, g17⟩
  go_wp2_with fail
  refine (toInt64S_any _ (h0.grow (H16.trans g17)) hsi).mono ?_
  rintro e w18 ⟨A18, l18, c18, rfl, i18, g18⟩
  obtain rfl : len = l18 := h0.1.symm.trans i18.1
  go_wp2_with fail
  refine (toValS_any _ (h1.grow (H16.trans (g17.trans g18))) hsv).mono ?_
  rintro e w19 ⟨A19, l19, c19, rfl, v19, g19⟩
  go_wp2_with fail
  refine (iKeyOf_any _ (i18.fresh.grow g19) v19.fresh hl0).mono ?_
  rintro e w20 ⟨A20, l20, c20, rfl, k20, g20⟩
  have g1720 := g17.trans (g18.trans (g19.trans g20))
  go_wp2_with fail
  refine (eqValS_any _ k20.fresh (isSl_low (isSl_belowG K4b g1720))).mono ?_
  rintro e w21 ⟨rfl, g21⟩
  go_wp2_with fail
  refine (heldValS_eq 1 rfl _ ((isSl_win m16).grow (g1720.trans g21)) (by omega)).mono ?_
  rintro e w22 ⟨rfl, g22⟩
  go_wp2
  go_ret
  exact ⟨rfl, H16.trans (g1720.trans (g21.trans g22))⟩
end Go.Proofs.Ythdpjfecodfdnaa
namespace Go.Proofs.Ythdpjfecodfdnaa.FnExactKeyOf
open Go.ChangeShapes Go.WideShapes Go.ChangeAt Go.RowKit
open Go.ChangeMaps (open_string shut_string)
theorem own : ownKnob Try.prog.godebug = none := by kernel_rfl
theorem laidOut : laidOutB Try.prog = true := by kernel_rfl
set_option maxRecDepth 100000 in
theorem lifted (os : Os) (started : os.Started) (H : Type) (enc : TypeId × Value → H) :
    ReturnsInHanded {} Try.checked os 4 .any (Rows.fnExactKeyOfSpec.pre6 enc Try.prog Try.f4 Rows.fnExactKeyOfRow.domain false) (Rows.fnExactKeyOfSpec.post enc Try.prog Try.f4 false true false false) := by
  refine returnsInHanded_of_change_sized (C := Try.checked) own started (by kernel_rfl) Try.func4
    (ChangeSpec.witness6 (enc := enc) (C := Try.checked) false ⟨#[], #[.slice none 0 0, .slice none 0 0], []⟩ 8 (by kernel_rfl) (by kernel_rfl) (by kernel_rfl) (by kernel_rfl)) ?_
  intro W base args ds gs before hval0 hW hcnd hsz0 _
  have hval : ∀ (j : Nat) t v, Try.f4.params[j]? = some t → args[j]? = some v → Value.okWide Try.prog W .any base t v := hval0
  have hW' := hW
  obtain ⟨p, q, hA0, hV, rfl, hfz, hnd⟩ := hW
  have hA : DataW.TrodAll enc Try.prog W 0 (fun _ => true) true Try.f4.params.toList args.toList ds p := hA0
  rw [Try.params4] at hA hval
  obtain ⟨v0, vs0, d0, ds0, p0, q0, hargs, rfl, rfl, h0, r0⟩ := trodAll_cons hA
  obtain ⟨v1, vs1, d1, ds1, p1, q1, rfl, rfl, rfl, h1, r1⟩ := trodAll_cons r0
  obtain ⟨rfl, rfl, rfl⟩ := trodAll_nil r1
  obtain rfl : args = #[v0, v1] := by cases args; simp_all
  obtain ⟨rfl, rfl⟩ := trodVars_none hV
  have k0 := h0
  have lt0 : ∀ x ∈ p0, x.block < W.heap.size := by obtain ⟨m, hm⟩ := k0; exact DataW.trod_lt m _ _ _ hm
  have k1 := h1
  have lt1 : ∀ x ∈ p1, x.block < W.heap.size := by obtain ⟨m, hm⟩ := k1; exact DataW.trod_lt m _ _ _ hm
  obtain ⟨A0, len0, cap0, rfl⟩ := okWide_slice Try.underlying29 (hval 0 29 v0 rfl rfl)
  obtain ⟨xs0, e0⟩ := opens_ints.of h0
  replace e0 := isSl_of e0
  obtain ⟨A1, len1, cap1, rfl⟩ := okWide_slice Try.underlying30 (hval 1 30 v1 rfl rfl)
  obtain ⟨xs1, e1⟩ := opens_lvals.of h1
  replace e1 := isSl_of e1
  clear hA0 hval0 hsz0
  refine (law_FnExactKeyOf A0 len0 cap0 xs0 e0 A1 len1 cap1 xs1 e1 W rfl).mono fun e W' ⟨he, bel⟩ => ?_
  subst he
  exact ⟨_, rfl, _, _, _, [], _, [], hW', trodAll_mk1 (shut_bool Try.underlying4 _), (trodAll_cons_mk (Below.trod laidOut (by kernel_rfl) (of_decide_eq_true (by kernel_rfl)) k0 bel lt0) (trodAll_cons_mk (Below.trod laidOut (by kernel_rfl) (of_decide_eq_true (by kernel_rfl)) k1 bel lt1) trodAll_mk0)), rfl, Below.frame bel _, fun h => by cases h⟩
theorem over : Rows.fnExactKeyOfRow.holds Try.pinned (OpenSpec.ofChange Rows.fnExactKeyOfSpec) :=
  OpenClaim.holds_of_wide 4 Try.f4 rfl rfl rfl rfl rfl rfl rfl ⟨rfl, rfl, rfl, rfl, rfl⟩ rfl rfl rfl rfl rfl (by kernel_rfl) Try.func4 (by kernel_rfl)
    (of_decide_eq_true (by kernel_rfl)) (by unfold Func.isWrapper; first | (rw [if_pos (by decide +kernel)]; kernel_rfl) | (rw [if_neg (by decide +kernel)]; exact ⟨rfl, rfl⟩))
    (fun os started H enc _ => lifted os started H enc)
theorem proved : Rows.FnExactKeyOfSaid := over
#print axioms proved
end Go.Proofs.Ythdpjfecodfdnaa.FnExactKeyOf
namespace Go.Proofs.Ythdpjfecodfdnaa
/-- The row, for the claim. -/
theorem fnExactKeyOf_holds : Rows.FnExactKeyOfSaid := FnExactKeyOf.proved
end Go.Proofs.Ythdpjfecodfdnaa
