/- The law FnExactEval returns true for every expression and row: the program's Eval and the reference's hand back the same, and both arguments read as they did. No condition. -/
import Derived.Test.YtnnlkeingkmoaaaRows
import Derived.Test.YtnnlkeingkmoaaaEvalS
import Derived.ProofKit
import Derived.OpenShut
import Derived.ShutString
import Derived.ChangeOld
import Derived.SizedLaws
namespace Go.Proofs.Ytnnlkeingkmoaaa
open Go.RowKit
set_option linter.unusedVariables false
set_option linter.unusedSimpArgs false
/-- What Eval hands back, as one value. -/
theorem optE_val {o : Option Val} {w w' : World} {e : Ending} (h : optE o w e w') : ∃ (u : Val) (r : Bool), (u = o.getD ⟨0, 0, ⟨#[]⟩⟩ ∧ r = o.isSome) ∧ e = .returned (.tuple #[.agg #[.int .i64 u.kind, .int .i64 u.n, .string u.s], .bool r]) ∧ Grow w w' := by
  cases o with
  | none => exact ⟨⟨0, 0, ⟨#[]⟩⟩, false, ⟨rfl, rfl⟩, h.1, h.2⟩
  | some u => exact ⟨u, true, ⟨rfl, rfl⟩, h.1, h.2⟩
set_option maxHeartbeats 2000000 in
theorem law_FnExactEval (A : Option Addr) (la ca : Nat) (ex : List Tok) {W : World} (he : IsSl Kd.tok W (· < W.heap.size) A la ca ex) (B : Option Addr) (lb cb : Nat) (row : List Val) (hv : IsSl Kd.val W (· < W.heap.size) B lb cb row) (w : World) (hw : w = W) :
    Calls Try.prog 3 #[.slice A la ca, .slice B lb cb] w (Ret w (.bool true)) := by
  subst hw
  go_enter Try.func3, Try.ntmps3
  go_wp2_with fail
  refine (szTokS_any 1048576 _ he (by decide) (by decide)).mono ?_
  rintro e w1 ⟨r, rfl, hr, g1⟩
  rcases hr with rfl | ⟨hr0, hr1, hl⟩
  · go_wp2
    go_ret
    exact ⟨rfl, g1⟩
  go_wp2_with fail
  refine (szValS_any r _ (hv.grow g1) hr0 (by omega)).mono ?_
  rintro e w2 ⟨r2, rfl, hr2, g2⟩
  have g02 := g1.trans g2
  rcases hr2 with rfl | ⟨hq0, hq1, hlv⟩
  · go_wp2
    go_ret
    exact ⟨rfl, g02⟩
  go_wp2_with fail
  refine (toTokS_any _ (he.grow g02) hl).mono ?_
  rintro e w3 ⟨A3, l3, c3, rfl, t3, g3⟩
  go_wp2_with fail
  refine (toValS_any _ (hv.grow (g02.trans g3)) hlv).mono ?_
  rintro e w4 ⟨A4, l4, c4, rfl, v4, g4⟩
  go_wp2_with fail
  refine (sEval_any _ (t3.fresh.grow g4) v4.fresh).mono ?_
  intro e w5 hv5
  obtain ⟨u, b, hub, rfl, g5⟩ := optE_val hv5
  have HUB := Lib.hid hub
  clear hv5 hub
  have g05 := g02.trans (g3.trans (g4.trans g5))
  go_wp2_with fail
  generalize hV : World.alloc w5 _ = V
  obtain ⟨gV, sV, kV⟩ := boxed1 hV
  clear hV
  have g0V := g05.trans gV
  refine (toTokS_any _ (he.grow g0V) hl).mono ?_
  rintro e w6 ⟨A6, l6, c6, rfl, t6, g6⟩
  go_wp2_with fail
  refine (toValS_any _ (hv.grow (g0V.trans g6)) hlv).mono ?_
  rintro e w7 ⟨A7, l7, c7, rfl, v7, g7⟩
  go_wp2_with fail
  refine (iEval_any _ (t6.fresh.grow g7) v7.fresh).mono ?_
  intro e w8 hv8
  obtain ⟨u2, b2, hub2, rfl, g8⟩ := optE_val hv8
  have hub3 := HUB.out
  obtain ⟨rfl, rfl⟩ : u2 = u ∧ b2 = b := ⟨hub2.1.trans hub3.1.symm, hub2.2.trans hub3.2.symm⟩
  clear hub2 hub3 hv8
  have gV8 := g6.trans (g7.trans g8)
  have kV8 : ∀ o, w8.cell? ⟨w5.heap.size, o, none⟩ = _ := fun o => (gV8.same _ _ sV).trans (kV o)
  have sV8 := Nat.lt_of_lt_of_le sV gV8.size
  have g08 := g0V.trans gV8
  go_wp2_with fail
  generalize hU : World.alloc w8 _ = U
  obtain ⟨gU, sU, kU⟩ := boxed1 hU
  clear hU
  have kVU : ∀ o, U.cell? ⟨w5.heap.size, o, none⟩ = _ := fun o => (gU.same _ _ sV8).trans (kV8 o)
  have sVU := Nat.lt_of_lt_of_le sV8 gU.size
  have g0U := g08.trans gU
  have hcU := gU.same
  refine (eqVal_any _ _ _ _).mono ?_
  rintro e w9 ⟨rfl, g9⟩
  have g09 := g0U.trans g9
  have gV9 := g8.trans (gU.trans g9)
  go_wp2_with fail
  refine (toTokS_any _ (he.grow g09) hl).mono ?_
  rintro e w10 ⟨A10, l10, c10, rfl, t10, g10⟩
  go_wp2_with fail
  refine (eqTokS_any _ (t6.fresh.grow (g7.trans (gV9.trans g10))) t10.fresh).mono ?_
  rintro e w11 ⟨rfl, g11⟩
  go_wp2_with fail
  refine (toValS_any _ (hv.grow (g09.trans (g10.trans g11))) hlv).mono ?_
  rintro e w12 ⟨A12, l12, c12, rfl, v12, g12⟩
  go_wp2_with fail
  refine (eqValS_any _ (v7.fresh.grow (gV9.trans (g10.trans (g11.trans g12)))) v12.fresh).mono ?_
  rintro e w13 ⟨rfl, g13⟩
  go_wp2
  go_ret
  exact ⟨rfl, g09.trans (g10.trans (g11.trans (g12.trans g13)))⟩
end Go.Proofs.Ytnnlkeingkmoaaa
namespace Go.Proofs.Ytnnlkeingkmoaaa.FnExactEval
open Go.ChangeShapes Go.WideShapes Go.ChangeAt Go.RowKit
open Go.ChangeMaps (open_string shut_string)
theorem own : ownKnob Try.prog.godebug = none := by kernel_rfl
theorem laidOut : laidOutB Try.prog = true := by kernel_rfl
set_option maxRecDepth 100000 in
theorem lifted (os : Os) (started : os.Started) (H : Type) (enc : TypeId × Value → H) :
    ReturnsInHanded {} Try.checked os 3 .any (Rows.fnExactEvalSpec.pre6 enc Try.prog Try.f3 Rows.fnExactEvalRow.domain false) (Rows.fnExactEvalSpec.post enc Try.prog Try.f3 false true false false) := by
  refine returnsInHanded_of_change_sized (C := Try.checked) own started (by kernel_rfl) Try.func3
    (ChangeSpec.witness6 (enc := enc) (C := Try.checked) false ⟨#[], #[.slice none 0 0, .slice none 0 0], []⟩ 8 (by kernel_rfl) (by kernel_rfl) (by kernel_rfl) (by kernel_rfl)) ?_
  intro W base args ds gs before hval0 hW hcnd hsz0 _
  have hval : ∀ (j : Nat) t v, Try.f3.params[j]? = some t → args[j]? = some v → Value.okWide Try.prog W .any base t v := hval0
  have hW' := hW
  obtain ⟨p, q, hA0, hV, rfl, hfz, hnd⟩ := hW
  have hA : DataW.TrodAll enc Try.prog W 0 (fun _ => true) true Try.f3.params.toList args.toList ds p := hA0
  rw [Try.params3] at hA hval
  obtain ⟨v0, vs0, d0, ds0, p0, q0, hargs, rfl, rfl, h0, r0⟩ := trodAll_cons hA
  obtain ⟨v1, vs1, d1, ds1, p1, q1, rfl, rfl, rfl, h1, r1⟩ := trodAll_cons r0
  obtain ⟨rfl, rfl, rfl⟩ := trodAll_nil r1
  obtain rfl : args = #[v0, v1] := by cases args; simp_all
  obtain ⟨rfl, rfl⟩ := trodVars_none hV
  have k0 := h0
  have lt0 : ∀ x ∈ p0, x.block < W.heap.size := by obtain ⟨m, hm⟩ := k0; exact DataW.trod_lt m _ _ _ hm
  have k1 := h1
  have lt1 : ∀ x ∈ p1, x.block < W.heap.size := by obtain ⟨m, hm⟩ := k1; exact DataW.trod_lt m _ _ _ hm
  obtain ⟨A0, len0, cap0, rfl⟩ := okWide_slice Try.underlying22 (hval 0 22 v0 rfl rfl)
  obtain ⟨xs0, e0⟩ := opens_ltoks.of h0
  replace e0 := isSl_of e0
  obtain ⟨A1, len1, cap1, rfl⟩ := okWide_slice Try.underlying23 (hval 1 23 v1 rfl rfl)
  obtain ⟨xs1, e1⟩ := opens_lvals.of h1
  replace e1 := isSl_of e1
  clear hA0 hval0 hsz0
  refine (law_FnExactEval A0 len0 cap0 xs0 e0 A1 len1 cap1 xs1 e1 W rfl).mono fun e W' ⟨he, bel⟩ => ?_
  subst he
  exact ⟨_, rfl, _, _, _, [], _, [], hW', trodAll_mk1 (shut_bool Try.underlying4 _), (trodAll_cons_mk (Below.trod laidOut (by kernel_rfl) (of_decide_eq_true (by kernel_rfl)) k0 bel lt0) (trodAll_cons_mk (Below.trod laidOut (by kernel_rfl) (of_decide_eq_true (by kernel_rfl)) k1 bel lt1) trodAll_mk0)), rfl, Below.frame bel _, fun h => by cases h⟩
theorem over : Rows.fnExactEvalRow.holds Try.pinned (OpenSpec.ofChange Rows.fnExactEvalSpec) :=
  OpenClaim.holds_of_wide 3 Try.f3 rfl rfl rfl rfl rfl rfl rfl ⟨rfl, rfl, rfl, rfl, rfl⟩ rfl rfl rfl rfl rfl (by kernel_rfl) Try.func3 (by kernel_rfl)
    (of_decide_eq_true (by kernel_rfl)) (by unfold Func.isWrapper; first | (rw [if_pos (by decide +kernel)]; kernel_rfl) | (rw [if_neg (by decide +kernel)]; exact ⟨rfl, rfl⟩))
    (fun os started H enc _ => lifted os started H enc)
theorem proved : Rows.FnExactEvalSaid := over
#print axioms proved
end Go.Proofs.Ytnnlkeingkmoaaa.FnExactEval
namespace Go.Proofs.Ytnnlkeingkmoaaa
/-- The row, for the claim. -/
theorem fnExactEval_holds : Rows.FnExactEvalSaid := FnExactEval.proved
end Go.Proofs.Ytnnlkeingkmoaaa
