/- The law FnExactSound returns true for every schema and database: the program's Sound and the reference's tell the same, and both arguments read as they did. No condition. -/
import Derived.Test.YtonijaniaimgaaaGreatRows
import Derived.Test.YtonijaniaimgaaaGreatFlaws
import Derived.ProofKit
import Derived.OpenShut
import Derived.ShutString
import Derived.ChangeOld
import Derived.SizedLaws
namespace Go.Proofs.YtonijaniaimgaaaGreat
open Go.RowKit
set_option linter.unusedVariables false
set_option linter.unusedSimpArgs false
set_option maxHeartbeats 2000000 in
theorem law_FnExactSound (A : Option Addr) (la ca : Nat) (s : List Table) {W : World} (hs : IsSl Kd.table W (· < W.heap.size) A la ca s) (B : Option Addr) (lb cb : Nat) (db : List Data) (hd : IsSl Kd.data W (· < W.heap.size) B lb cb db) (w : World) (hw : w = W) :
    Calls Tryz.prog 3 #[.slice A la ca, .slice B lb cb] w (Ret w (.bool true)) := by
  subst hw
  go_enter Tryz.func3, Tryz.ntmps3
  go_wp2_with fail
  refine (szTableS_any 1048576 _ hs (by decide) (by decide)).mono ?_
  rintro e w1 ⟨r, rfl, hr, g1⟩
  rcases hr with rfl | ⟨hr0, hr1, hl⟩
  · go_wp2
    go_ret
    exact ⟨rfl, g1⟩
  go_wp2_with fail
  refine (szDataS_any r _ (hd.grow g1) hr0 (by omega)).mono ?_
  rintro e w2 ⟨r2, rfl, hr2, g2⟩
  have g02 := g1.trans g2
  rcases hr2 with rfl | ⟨hq0, hq1, hlv⟩
  · go_wp2
    go_ret
    exact ⟨rfl, g02⟩
  go_wp2_with fail
  refine (toTableS_any _ (hs.grow g02) hl).mono ?_
  rintro e w3 ⟨A3, l3, c3, rfl, t3, g3⟩
  go_wp2_with fail
  refine (toDataS_any _ (hd.grow (g02.trans g3)) hlv).mono ?_
  rintro e w4 ⟨A4, l4, c4, rfl, v4, g4⟩
  go_wp2_with fail
  refine (sSound_any _ (t3.fresh.grow g4) v4.fresh).mono ?_
  rintro e w5 ⟨rfl, g5⟩
  have g05 := g02.trans (g3.trans (g4.trans g5))
  go_wp2_with fail
  refine (toTableS_any _ (hs.grow g05) hl).mono ?_
  rintro e w6 ⟨A6, l6, c6, rfl, t6, g6⟩
  go_wp2_with fail
  refine (toDataS_any _ (hd.grow (g05.trans g6)) hlv).mono ?_
  rintro e w7 ⟨A7, l7, c7, rfl, v7, g7⟩
  go_wp2_with fail
  refine (iSound_any _ (t6.fresh.grow g7) v7.fresh).mono ?_
  rintro e w8 ⟨rfl, g8⟩
  have g08 := g05.trans (g6.trans (g7.trans g8))
  go_wp2_with fail
  refine (toTableS_any _ (hs.grow g08) hl).mono ?_
  rintro e w10 ⟨A10, l10, c10, rfl, t10, g10⟩
  go_wp2_with fail
  refine (eqTableS_any _ (t6.fresh.grow (g7.trans (g8.trans g10))) t10.fresh).mono ?_
  rintro e w11 ⟨rfl, g11⟩
  go_wp2_with fail
  refine (toDataS_any _ (hd.grow (g08.trans (g10.trans g11))) hlv).mono ?_
  rintro e w12 ⟨A12, l12, c12, rfl, v12, g12⟩
  go_wp2_with fail
  refine (eqDataS_any _ (v7.fresh.grow (g8.trans (g10.trans (g11.trans g12)))) v12.fresh).mono ?_
  rintro e w13 ⟨rfl, g13⟩
  go_wp2
  go_ret
  exact ⟨rfl, g08.trans (g10.trans (g11.trans (g12.trans g13)))⟩
end Go.Proofs.YtonijaniaimgaaaGreat
namespace Go.Proofs.YtonijaniaimgaaaGreat.FnExactSound
open Go.ChangeShapes Go.WideShapes Go.ChangeAt Go.RowKit
open Go.ChangeMaps (open_string shut_string)
theorem own : ownKnob Tryz.prog.godebug = none := by kernel_rfl
theorem laidOut : laidOutB Tryz.prog = true := by kernel_rfl
set_option maxRecDepth 100000 in
theorem lifted (os : Os) (started : os.Started) (H : Type) (enc : TypeId × Value → H) :
    ReturnsInHanded {} Tryz.checked os 3 .any (Rows.fnExactSoundSpec.pre6 enc Tryz.prog Tryz.f3 Rows.fnExactSoundRow.domain false) (Rows.fnExactSoundSpec.post enc Tryz.prog Tryz.f3 false true false false) := by
  refine returnsInHanded_of_change_sized (C := Tryz.checked) own started (by kernel_rfl) Tryz.func3
    (ChangeSpec.witness6 (enc := enc) (C := Tryz.checked) false ⟨#[], #[.slice none 0 0, .slice none 0 0], []⟩ 8 (by kernel_rfl) (by kernel_rfl) (by kernel_rfl) (by kernel_rfl)) ?_
  intro W base args ds gs before hval0 hW hcnd hsz0 _
  have hval : ∀ (j : Nat) t v, Tryz.f3.params[j]? = some t → args[j]? = some v → Value.okWide Tryz.prog W .any base t v := hval0
  have hW' := hW
  obtain ⟨p, q, hA0, hV, rfl, hfz, hnd⟩ := hW
  have hA : DataW.TrodAll enc Tryz.prog W 0 (fun _ => true) true Tryz.f3.params.toList args.toList ds p := hA0
  rw [Tryz.params3] at hA hval
  obtain ⟨v0, vs0, d0, ds0, p0, q0, hargs, rfl, rfl, h0, r0⟩ := trodAll_cons hA
  obtain ⟨v1, vs1, d1, ds1, p1, q1, rfl, rfl, rfl, h1, r1⟩ := trodAll_cons r0
  obtain ⟨rfl, rfl, rfl⟩ := trodAll_nil r1
  obtain rfl : args = #[v0, v1] := by cases args; simp_all
  obtain ⟨rfl, rfl⟩ := trodVars_none hV
  have k0 := h0
  have lt0 : ∀ x ∈ p0, x.block < W.heap.size := by obtain ⟨m, hm⟩ := k0; exact DataW.trod_lt m _ _ _ hm
  have k1 := h1
  have lt1 : ∀ x ∈ p1, x.block < W.heap.size := by obtain ⟨m, hm⟩ := k1; exact DataW.trod_lt m _ _ _ hm
  obtain ⟨A0, len0, cap0, rfl⟩ := okWide_slice Tryz.underlying22 (hval 0 22 v0 rfl rfl)
  obtain ⟨xs0, e0⟩ := opens_ltables.of h0
  replace e0 := isSl_of e0
  obtain ⟨A1, len1, cap1, rfl⟩ := okWide_slice Tryz.underlying23 (hval 1 23 v1 rfl rfl)
  obtain ⟨xs1, e1⟩ := opens_ldatas.of h1
  replace e1 := isSl_of e1
  clear hA0 hval0 hsz0
  refine (law_FnExactSound A0 len0 cap0 xs0 e0 A1 len1 cap1 xs1 e1 W rfl).mono fun e W' ⟨he, bel⟩ => ?_
  subst he
  exact ⟨_, rfl, _, _, _, [], _, [], hW', trodAll_mk1 (shut_bool Tryz.underlying4 _), (trodAll_cons_mk (Below.trod laidOut (by kernel_rfl) (of_decide_eq_true (by kernel_rfl)) k0 bel lt0) (trodAll_cons_mk (Below.trod laidOut (by kernel_rfl) (of_decide_eq_true (by kernel_rfl)) k1 bel lt1) trodAll_mk0)), rfl, Below.frame bel _, fun h => by cases h⟩
theorem over : Rows.fnExactSoundRow.holds Tryz.pinned (OpenSpec.ofChange Rows.fnExactSoundSpec) :=
  OpenClaim.holds_of_wide 3 Tryz.f3 rfl rfl rfl rfl rfl rfl rfl ⟨rfl, rfl, rfl, rfl, rfl⟩ rfl rfl rfl rfl rfl (by kernel_rfl) Tryz.func3 (by kernel_rfl)
    (of_decide_eq_true (by kernel_rfl)) (by unfold Func.isWrapper; first | (rw [if_pos (by decide +kernel)]; kernel_rfl) | (rw [if_neg (by decide +kernel)]; exact ⟨rfl, rfl⟩))
    (fun os started H enc _ => lifted os started H enc)
theorem proved : Rows.FnExactSoundSaid := over
#print axioms proved
end Go.Proofs.YtonijaniaimgaaaGreat.FnExactSound
namespace Go.Proofs.YtonijaniaimgaaaGreat
/-- The row, for the claim. -/
theorem fnExactSound_holds : Rows.FnExactSoundSaid := FnExactSound.proved
end Go.Proofs.YtonijaniaimgaaaGreat
