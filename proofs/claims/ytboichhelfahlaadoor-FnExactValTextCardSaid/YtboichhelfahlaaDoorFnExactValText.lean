/- The law FnExactValText returns true for every value: the program's ValText and the reference's tell the same. The library's tables lie as their initialisers lay them. -/
import Derived.Test.YtboichhelfahlaaDoorRows
import Derived.Test.YtboichhelfahlaaDoorTie
import Derived.Test.YtboichhelfahlaaDoorCards
import Derived.Test.YtboichhelfahlaaDoorLaidD
import Derived.Test.YtboichhelfahlaaDoorLawVals
import Derived.SevenTiedAt
import Derived.ProofKit
import Derived.OpenShut
import Derived.ShutString
import Derived.ChangeOld
import Derived.SizedLaws
namespace Go.Proofs.YtboichhelfahlaaDoor
open Go.RowKit
set_option linter.unusedVariables false
set_option linter.unusedSimpArgs false
theorem walk_FnExactValText (k n : Int) (s : ByteArray) (w : World) (hs : s.size ≤ maxLen) (hp : Pow10 w) : Calls Tryd.prog 3 #[.agg #[.int .i64 k, .int .i64 n, .string s]] w (Ret w (.bool true)) := by
  have HP := Lib.hid hp
  clear hp
  go_enter Tryd.func3, Tryd.ntmps3
  go_wp2_with fail
  generalize hW : World.alloc w _ = W
  obtain ⟨hg, hs', k1⟩ := boxed1 hW
  clear hW
  have hcur := Grow.refl W
  go_wp2_with (first | (go_at_call 7; (with_reducible refine (szVal_any _ _ _ _ _ (by omega) (by omega) hs).mono ?_); rintro e w1 ⟨rfl, hb⟩; replace hcur := hcur.trans hb; replace hc := hcur.same; clear hb) | (go_at_call 9; (with_reducible refine (toVal_any _ _ _ _).mono ?_); rintro e w1 ⟨rfl, hb⟩; replace hcur := hcur.trans hb; replace hc := hcur.same; clear hb) | (go_at_call 8; refine (sValText_any ⟨_, _, _⟩ _).mono ?_; rintro e w1 ⟨rfl, hb⟩; replace hcur := hcur.trans hb; replace hc := hcur.same; clear hb) | (go_at_call 10; refine (iValText_any ⟨_, _, _⟩ _ (HP.out.grow (hg.trans hcur))).mono ?_; rintro e w1 ⟨rfl, hb⟩; replace hcur := hcur.trans hb; replace hc := hcur.same; clear hb))
  all_goals go_ret
  all_goals exact ⟨rfl, hg.trans hcur⟩
theorem law_FnExactValText (c : Array Value) (a : Val) {S : Nat → Prop} {W : World} (r : Kd.val.rd W S (Value.agg c).cells.toList a) (w : World) (hp : Pow10 w) : Calls Tryd.prog 3 #[.agg c] w (Ret w (.bool true)) := by
  obtain ⟨e, hs⟩ := r
  obtain rfl := agg_of e
  exact walk_FnExactValText _ _ _ w hs hp
end Go.Proofs.YtboichhelfahlaaDoor
namespace Go.Proofs.YtboichhelfahlaaDoor.FnExactValText
open Go.ChangeShapes Go.WideShapes Go.ChangeAt Go.RowKit
open Go.ChangeMaps (open_string shut_string)
theorem own : ownKnob Tryd.prog.godebug = none := by kernel_rfl
theorem laidOut : laidOutB Tryd.prog = true := by kernel_rfl
set_option maxRecDepth 100000 in
theorem door_met (os : Os) (args : Array Value) : laidMetH Tryd.prog Rows.fnExactValTextRow.laid ((World.doorLaid Tryd.prog 4000 os).forCall (fun _ _ => 0) ⟨#[], args, []⟩).memory := by
  rw [MakeChecks.laidMetH_plain _ _ _ (by kernel_rfl)]
  exact laidMet_of_run' 8 (by kernel_rfl) (by kernel_rfl)
set_option maxRecDepth 100000 in
theorem lifted (os : Os) (started : os.Started) (H : Type) (enc : TypeId × Value → H) :
    ReturnsInHanded {} Tryd.checked os 3 .any (fun w args => (Rows.fnExactValTextSpec.pre enc Tryd.prog Tryd.f3 Rows.fnExactValTextRow.domain false w args ∧ laidMetH Tryd.prog Rows.fnExactValTextRow.laid w) ∧ sizedMet enc Tryd.prog Tryd.f3 (OpenSpec.ofChange Rows.fnExactValTextSpec) false w args) (Rows.fnExactValTextSpec.post enc Tryd.prog Tryd.f3 false true false false) := by
  refine returnsInHanded_of_change_and (C := Tryd.checked) (X := fun w _ => laidMetH Tryd.prog Rows.fnExactValTextRow.laid w) (fun _ _ _ hh h => h.of_heap hh) own started (by kernel_rfl) Tryd.func3
    (ChangeSpec.witness_shaped (enc := enc) (C := Tryd.checked) (os := os) (X := fun w _ => laidMetH Tryd.prog Rows.fnExactValTextRow.laid w) false (World.doorLaid Tryd.prog 4000 os) #[.agg #[.int .i64 0, .int .i64 0, .string ⟨#[]⟩]] 8 rfl (World.shaped_of_RefB (by kernel_rfl) (by kernel_rfl)) (by kernel_rfl) (by kernel_rfl) (by kernel_rfl) (door_met os _)) ?_
  intro W base args ds gs before hval0 hW hcnd hsz0 hL _
  rw [MakeChecks.laidMetH_plain _ _ _ (by kernel_rfl)] at hL
  have hD : Pow10 W := pow10_of hL (by rw [← pow10_row]; exact List.mem_cons_of_mem _ (List.mem_cons_of_mem _ List.mem_cons_self))
  have hval : ∀ (j : Nat) t v, Tryd.f3.params[j]? = some t → args[j]? = some v → Value.okWide Tryd.prog W .any base t v := hval0
  have hW' := hW
  obtain ⟨p, q, hA0, hV, rfl, hfz, hnd⟩ := hW
  have hA : DataW.TrodAll enc Tryd.prog W 0 (fun _ => true) true Tryd.f3.params.toList args.toList ds p := hA0
  rw [Tryd.params3] at hA hval
  obtain ⟨v0, vs0, d0, ds0, p0, q0, hargs, rfl, rfl, h0, r0⟩ := trodAll_cons hA
  obtain ⟨rfl, rfl, rfl⟩ := trodAll_nil r0
  obtain rfl : args = #[v0] := by cases args; simp_all
  obtain ⟨rfl, rfl⟩ := trodVars_none hV
  have k0 := h0
  have lt0 : ∀ x ∈ p0, x.block < W.heap.size := by obtain ⟨m, hm⟩ := k0; exact DataW.trod_lt m _ _ _ hm
  obtain ⟨c0, rfl, _⟩ := okWide_struct Tryd.underlying23 (hval 0 23 v0 rfl rfl)
  obtain ⟨a0, e0⟩ := opens_lval.of h0
  clear hA0 hval0 hsz0
  refine (law_FnExactValText c0 a0 e0 W hD).mono fun e W' ⟨he, bel⟩ => ?_
  subst he
  exact ⟨_, rfl, _, _, _, [], _, [], hW', trodAll_mk1 (shut_bool Tryd.underlying4 _), (trodAll_cons_mk (Below.trod laidOut (by kernel_rfl) (of_decide_eq_true (by kernel_rfl)) k0 bel lt0) trodAll_mk0), rfl, Below.frame bel _, fun h => by cases h⟩
theorem jA : (Rows.fnExactValTextRow.inPlace == Tryd.pinned.checked.prog.inPlace 3) = true := by kernel_rfl
theorem jB : (Rows.fnExactValTextRow.unfollowed == Tryd.pinned.checked.prog.unfollowed 3) = true := by kernel_rfl
theorem jC : (Rows.fnExactValTextRow.recurses == Tryd.pinned.checked.prog.recurses 3) = true := by kernel_rfl
theorem jD : (Rows.fnExactValTextRow.named == Tryd.pinned.checked.prog.varsNamed 3) = true := by kernel_rfl
/-- What the row says of the code that is reached, part by part: less memory than all at once. -/
theorem closed : joinedFacts Tryd.pinned.checked.prog 3 Tryd.f3 Rows.fnExactValTextSpec Rows.fnExactValTextRow = true := by
  unfold joinedFacts
  rw [jA, jB, jC, jD]
  kernel_rfl
theorem wrap : Tryd.f3.isWrapper Tryd.pinned.checked.prog Rows.fnExactValTextRow.wrapper Rows.fnExactValTextRow.mainSum := by
  unfold Func.isWrapper; first | (rw [if_pos (by decide +kernel)]; kernel_rfl) | (rw [if_neg (by decide +kernel)]; exact ⟨rfl, rfl⟩)
theorem inst : Tryd.f3.isInstance Tryd.pinned.checked.prog Rows.fnExactValTextRow.origin Rows.fnExactValTextRow.targs := of_decide_eq_true (by kernel_rfl)
theorem nam : Tryd.pinned.checked.prog.funcNamed Rows.fnExactValTextRow.func = some 3 := by kernel_rfl
theorem over : Rows.fnExactValTextRow.holds Tryd.pinned (OpenSpec.ofChange Rows.fnExactValTextSpec) :=
  OpenClaim.holds_of_wide 3 Tryd.f3 rfl rfl rfl rfl rfl rfl rfl ⟨rfl, rfl, rfl, rfl, rfl⟩ rfl rfl rfl rfl rfl nam Tryd.func3 closed inst wrap
    (fun os started H enc _ => lifted os started H enc)
theorem proved : Rows.FnExactValTextSaid := over
/-- The tied card. -/
theorem card : Rows.FnExactValTextCardSaid :=
  Claim7.holds_tied_plain_at .later [] _ true _ true
    proved (fun _ h => by cases h) (by kernel_rfl) (fun _ h => by cases h) fnExactValText_row_tie rfl ⟨rfl, rfl⟩ (by kernel_rfl) rfl
    (fun f fn hf hfn => by
      obtain rfl := Option.some.inj (nam.symm.trans hf)
      obtain rfl := Option.some.inj (Tryd.func3.symm.trans hfn)
      exact ⟨by kernel_rfl, fun j t ht => by
        have hall : (Tryd.f3.params.toList.all fun u => !Tryd.prog.wantsStandIn u) = true := by kernel_rfl
        have hm : t ∈ Tryd.f3.params.toList := Array.mem_toList_iff.mpr (Array.mem_of_getElem? ht)
        exact (show Tryd.prog.wantsStandIn t = false by simpa using List.all_eq_true.1 hall t hm)⟩)
    (by kernel_rfl)
#print axioms card
end Go.Proofs.YtboichhelfahlaaDoor.FnExactValText
namespace Go.Proofs.YtboichhelfahlaaDoor
/-- The row, for the claim. -/
theorem fnExactValText_holds : Rows.FnExactValTextCardSaid := FnExactValText.card
end Go.Proofs.YtboichhelfahlaaDoor
