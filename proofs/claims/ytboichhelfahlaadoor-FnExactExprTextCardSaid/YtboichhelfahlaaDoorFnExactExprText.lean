/- The law FnExactExprText returns true for every expression: the program's ExprText and the reference's tell the same, and the argument reads as it did. The library's tables lie as their initialisers lay them. -/
import Derived.Test.YtboichhelfahlaaDoorRows
import Derived.Test.YtboichhelfahlaaDoorTie
import Derived.Test.YtboichhelfahlaaDoorCards
import Derived.Test.YtboichhelfahlaaDoorLaidD
import Derived.Test.YtboichhelfahlaaDoorTextG
import Derived.Test.YtboichhelfahlaaDoorLawVals
import Derived.SevenTiedAt
import Derived.ProofKit
import Derived.OpenShut
import Derived.ShutString
import Derived.ChangeOld
import Derived.SizedLaws
namespace Go.Proofs.YtboichhelfahlaaDoor
open Go.RowKit
set_option linter.unusedVariables false
set_option linter.unusedSimpArgs false
set_option maxHeartbeats 2000000 in
theorem law_FnExactExprText (A : Option Addr) (la ca : Nat) (ex : List Tok) {W : World} (he : IsSl Kd.tok W (· < W.heap.size) A la ca ex) (w : World) (hw : w = W) (hp : Pow10 w) :
    Calls Tryd.prog 4 #[.slice A la ca] w (Ret w (.bool true)) := by
  subst hw
  have HP := Lib.hid hp
  clear hp
  obtain ⟨T, hT⟩ : ∃ T, strOf (textE ex) = T := ⟨_, rfl⟩
  have HT := Lib.hid hT
  clear hT
  go_enter Tryd.func4, Tryd.ntmps4
  go_wp2_with fail
  refine (szTokS_any 1048576 _ he (by decide) (by decide)).mono ?_
  rintro e w1 ⟨r, rfl, hr, g1⟩
  rcases hr with rfl | ⟨hr0, hr1, hl⟩
  · go_wp2
    go_ret
    exact ⟨rfl, g1⟩
  go_wp2_with fail
  refine (toTokS_any _ (he.grow g1) hl).mono ?_
  rintro e w2 ⟨A2, l2, c2, rfl, t2, g2⟩
  go_wp2_with fail
  refine (sExprText_any _ t2.fresh).mono ?_
  rw [HT.out]
  rintro e w3 ⟨rfl, g3⟩
  have g03 := g1.trans (g2.trans g3)
  go_wp2_with fail
  refine (toTokS_any _ (he.grow g03) hl).mono ?_
  rintro e w4 ⟨A4, l4, c4, rfl, t4, g4⟩
  go_wp2_with fail
  refine (iExprText_any _ t4.fresh (HP.out.grow (g03.trans g4))).mono ?_
  rw [HT.out]
  rintro e w5 ⟨rfl, g5⟩
  have g05 := g03.trans (g4.trans g5)
  go_wp2_with fail
  refine (toTokS_any _ (he.grow g05) hl).mono ?_
  rintro e w6 ⟨A6, l6, c6, rfl, t6, g6⟩
  go_wp2_with fail
  refine (eqTokS_any _ (t4.fresh.grow (g5.trans g6)) t6.fresh).mono ?_
  rintro e w7 ⟨rfl, g7⟩
  go_wp2
  go_ret
  exact ⟨rfl, g05.trans (g6.trans g7)⟩
end Go.Proofs.YtboichhelfahlaaDoor
namespace Go.Proofs.YtboichhelfahlaaDoor.FnExactExprText
open Go.ChangeShapes Go.WideShapes Go.ChangeAt Go.RowKit
open Go.ChangeMaps (open_string shut_string)
theorem own : ownKnob Tryd.prog.godebug = none := by kernel_rfl
theorem laidOut : laidOutB Tryd.prog = true := by kernel_rfl
set_option maxRecDepth 100000 in
theorem door_met (os : Os) (args : Array Value) : laidMetH Tryd.prog Rows.fnExactExprTextRow.laid ((World.doorLaid Tryd.prog 4000 os).forCall (fun _ _ => 0) ⟨#[], args, []⟩).memory := by
  rw [MakeChecks.laidMetH_plain _ _ _ (by kernel_rfl)]
  exact laidMet_of_run' 8 (by kernel_rfl) (by kernel_rfl)
set_option maxRecDepth 100000 in
theorem lifted (os : Os) (started : os.Started) (H : Type) (enc : TypeId × Value → H) :
    ReturnsInHanded {} Tryd.checked os 4 .any (fun w args => (Rows.fnExactExprTextSpec.pre enc Tryd.prog Tryd.f4 Rows.fnExactExprTextRow.domain false w args ∧ laidMetH Tryd.prog Rows.fnExactExprTextRow.laid w) ∧ sizedMet enc Tryd.prog Tryd.f4 (OpenSpec.ofChange Rows.fnExactExprTextSpec) false w args) (Rows.fnExactExprTextSpec.post enc Tryd.prog Tryd.f4 false true false false) := by
  refine returnsInHanded_of_change_and (C := Tryd.checked) (X := fun w _ => laidMetH Tryd.prog Rows.fnExactExprTextRow.laid w) (fun _ _ _ hh h => h.of_heap hh) own started (by kernel_rfl) Tryd.func4
    (ChangeSpec.witness_shaped (enc := enc) (C := Tryd.checked) (os := os) (X := fun w _ => laidMetH Tryd.prog Rows.fnExactExprTextRow.laid w) false (World.doorLaid Tryd.prog 4000 os) #[.slice none 0 0] 8 rfl (World.shaped_of_RefB (by kernel_rfl) (by kernel_rfl)) (by kernel_rfl) (by kernel_rfl) (by kernel_rfl) (door_met os _)) ?_
  intro W base args ds gs before hval0 hW hcnd hsz0 hL _
  rw [MakeChecks.laidMetH_plain _ _ _ (by kernel_rfl)] at hL
  have hD : Pow10 W := pow10_of hL (by rw [← pow10_row]; exact List.mem_cons_of_mem _ (List.mem_cons_of_mem _ List.mem_cons_self))
  have hval : ∀ (j : Nat) t v, Tryd.f4.params[j]? = some t → args[j]? = some v → Value.okWide Tryd.prog W .any base t v := hval0
  have hW' := hW
  obtain ⟨p, q, hA0, hV, rfl, hfz, hnd⟩ := hW
  have hA : DataW.TrodAll enc Tryd.prog W 0 (fun _ => true) true Tryd.f4.params.toList args.toList ds p := hA0
  rw [Tryd.params4] at hA hval
  obtain ⟨v0, vs0, d0, ds0, p0, q0, hargs, rfl, rfl, h0, r0⟩ := trodAll_cons hA
  obtain ⟨rfl, rfl, rfl⟩ := trodAll_nil r0
  obtain rfl : args = #[v0] := by cases args; simp_all
  obtain ⟨rfl, rfl⟩ := trodVars_none hV
  have k0 := h0
  have lt0 : ∀ x ∈ p0, x.block < W.heap.size := by obtain ⟨m, hm⟩ := k0; exact DataW.trod_lt m _ _ _ hm
  obtain ⟨A0, len0, cap0, rfl⟩ := okWide_slice Tryd.underlying29 (hval 0 29 v0 rfl rfl)
  obtain ⟨xs0, e0⟩ := opens_ltoks.of h0
  replace e0 := isSl_of e0
  clear hA0 hval0 hsz0
  refine (law_FnExactExprText A0 len0 cap0 xs0 e0 W rfl hD).mono fun e W' ⟨he, bel⟩ => ?_
  subst he
  exact ⟨_, rfl, _, _, _, [], _, [], hW', trodAll_mk1 (shut_bool Tryd.underlying4 _), (trodAll_cons_mk (Below.trod laidOut (by kernel_rfl) (of_decide_eq_true (by kernel_rfl)) k0 bel lt0) trodAll_mk0), rfl, Below.frame bel _, fun h => by cases h⟩
theorem jA : (Rows.fnExactExprTextRow.inPlace == Tryd.pinned.checked.prog.inPlace 4) = true := by kernel_rfl
theorem jB : (Rows.fnExactExprTextRow.unfollowed == Tryd.pinned.checked.prog.unfollowed 4) = true := by kernel_rfl
theorem jC : (Rows.fnExactExprTextRow.recurses == Tryd.pinned.checked.prog.recurses 4) = true := by kernel_rfl
theorem jD : (Rows.fnExactExprTextRow.named == Tryd.pinned.checked.prog.varsNamed 4) = true := by kernel_rfl
/-- What the row says of the code that is reached, part by part: less memory than all at once. -/
theorem closed : joinedFacts Tryd.pinned.checked.prog 4 Tryd.f4 Rows.fnExactExprTextSpec Rows.fnExactExprTextRow = true := by
  unfold joinedFacts
  rw [jA, jB, jC, jD]
  kernel_rfl
theorem wrap : Tryd.f4.isWrapper Tryd.pinned.checked.prog Rows.fnExactExprTextRow.wrapper Rows.fnExactExprTextRow.mainSum := by
  unfold Func.isWrapper; first | (rw [if_pos (by decide +kernel)]; kernel_rfl) | (rw [if_neg (by decide +kernel)]; exact ⟨rfl, rfl⟩)
theorem inst : Tryd.f4.isInstance Tryd.pinned.checked.prog Rows.fnExactExprTextRow.origin Rows.fnExactExprTextRow.targs := of_decide_eq_true (by kernel_rfl)
theorem nam : Tryd.pinned.checked.prog.funcNamed Rows.fnExactExprTextRow.func = some 4 := by kernel_rfl
theorem over : Rows.fnExactExprTextRow.holds Tryd.pinned (OpenSpec.ofChange Rows.fnExactExprTextSpec) :=
  OpenClaim.holds_of_wide 4 Tryd.f4 rfl rfl rfl rfl rfl rfl rfl ⟨rfl, rfl, rfl, rfl, rfl⟩ rfl rfl rfl rfl rfl nam Tryd.func4 closed inst wrap
    (fun os started H enc _ => lifted os started H enc)
theorem proved : Rows.FnExactExprTextSaid := over
/-- The tied card. -/
theorem card : Rows.FnExactExprTextCardSaid :=
  Claim7.holds_tied_plain_at .later [] _ true _ true
    proved (fun _ h => by cases h) (by kernel_rfl) (fun _ h => by cases h) fnExactExprText_row_tie rfl ⟨rfl, rfl⟩ (by kernel_rfl) rfl
    (fun f fn hf hfn => by
      obtain rfl := Option.some.inj (nam.symm.trans hf)
      obtain rfl := Option.some.inj (Tryd.func4.symm.trans hfn)
      exact ⟨by kernel_rfl, fun j t ht => by
        have hall : (Tryd.f4.params.toList.all fun u => !Tryd.prog.wantsStandIn u) = true := by kernel_rfl
        have hm : t ∈ Tryd.f4.params.toList := Array.mem_toList_iff.mpr (Array.mem_of_getElem? ht)
        exact (show Tryd.prog.wantsStandIn t = false by simpa using List.all_eq_true.1 hall t hm)⟩)
    (by kernel_rfl)
#print axioms card
end Go.Proofs.YtboichhelfahlaaDoor.FnExactExprText
namespace Go.Proofs.YtboichhelfahlaaDoor
/-- The row, for the claim. -/
theorem fnExactExprText_holds : Rows.FnExactExprTextCardSaid := FnExactExprText.card
end Go.Proofs.YtboichhelfahlaaDoor
