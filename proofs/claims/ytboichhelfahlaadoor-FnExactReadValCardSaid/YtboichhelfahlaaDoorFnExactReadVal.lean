/- The law FnExactReadVal returns true for every text: the program's ReadVal and the reference's read the same. The library's tables and errors lie as their initialisers lay them. -/
import Derived.Test.YtboichhelfahlaaDoorRows
import Derived.Test.YtboichhelfahlaaDoorTie
import Derived.Test.YtboichhelfahlaaDoorCards
import Derived.Test.YtboichhelfahlaaDoorLaidD
import Derived.Test.YtboichhelfahlaaDoorTextX
import Derived.Test.YtboichhelfahlaaDoorLawVals
import Derived.SevenTiedAt
import Derived.ProofKit
import Derived.OpenShut
import Derived.ShutString
import Derived.ChangeOld
import Derived.SizedLaws
namespace Go.Proofs.YtboichhelfahlaaDoor
open Go.RowKit
set_option linter.unusedVariables false
set_option linter.unusedSimpArgs false
theorem walk_FnExactReadVal (s : ByteArray) (w : World) (hd : Doors w) : Calls Tryd.prog 5 #[.string s] w (Ret w (.bool true)) := by
  have HD := Lib.hid hd
  clear hd
  by_cases hs : s.size ≤ 1048576
  · have HS := Lib.hid hs
    have i0 : ¬ (1048576 : Int) < (s.size : Int) := by omega
    clear hs
    obtain ⟨r, hr⟩ : ∃ r, readV s.data.toList = r := ⟨_, rfl⟩
    have HA := fun w => sReadVal_any s w HS.out
    have HB := fun w h => iReadVal_any s w HS.out h
    rw [hr] at HA HB
    clear hr
    go_enter Tryd.func5, Tryd.ntmps5
    go_wp2_with fail
    refine (HA _).mono ?_
    rintro e w1 ⟨rfl, g1⟩
    go_wp2_with fail
    generalize hU : World.alloc w1 _ = U
    obtain ⟨gU, sU, kU⟩ := boxed1 hU
    clear hU
    refine (HB _ (HD.out.grow (g1.trans gU))).mono ?_
    rintro e w2 ⟨rfl, g2⟩
    clear HA HB
    have k2 : ∀ o, w2.cell? ⟨w1.heap.size, o, none⟩ = (#[.int .i64 r.1.kind, .int .i64 r.1.n, .string r.1.s] : Array Value)[o]? := fun o => (g2.same _ _ sU).trans (kU o)
    have s2 := Nat.lt_of_lt_of_le sU g2.size
    clear kU
    go_wp2_with fail
    generalize hV : World.alloc w2 _ = V
    obtain ⟨gV, sV, kV⟩ := boxed1 hV
    clear hV
    refine (eqVal_any _ _ _ _).mono ?_
    rintro e w3 ⟨rfl, g3⟩
    have g03 := g1.trans (gU.trans (g2.trans (gV.trans g3)))
    go_wp2
    all_goals go_ret
    all_goals exact ⟨rfl, g03⟩
  · have i0 : (1048576 : Int) < (s.size : Int) := by omega
    go_enter Tryd.func5, Tryd.ntmps5
    go_wp2
    all_goals go_ret
    all_goals exact ⟨rfl, Grow.refl _⟩
theorem law_FnExactReadVal (s : ByteArray) (hs : s.size ≤ maxLen) (w : World) (hp : Doors w) : Calls Tryd.prog 5 #[.string s] w (Ret w (.bool true)) := walk_FnExactReadVal s w hp
end Go.Proofs.YtboichhelfahlaaDoor
namespace Go.Proofs.YtboichhelfahlaaDoor.FnExactReadVal
open Go.ChangeShapes Go.WideShapes Go.ChangeAt Go.RowKit
open Go.ChangeMaps (open_string shut_string)
theorem own : ownKnob Tryd.prog.godebug = none := by kernel_rfl
theorem laidOut : laidOutB Tryd.prog = true := by kernel_rfl
set_option maxRecDepth 100000 in
theorem door_met (os : Os) (args : Array Value) : laidMetH Tryd.prog Rows.fnExactReadValRow.laid ((World.doorLaid Tryd.prog 4000 os).forCall (fun _ _ => 0) ⟨#[], args, []⟩).memory := by
  rw [MakeChecks.laidMetH_plain _ _ _ (by kernel_rfl)]
  exact laidMet_of_run' 8 (by kernel_rfl) (by kernel_rfl)
set_option maxRecDepth 100000 in
theorem lifted (os : Os) (started : os.Started) (H : Type) (enc : TypeId × Value → H) :
    ReturnsInHanded {} Tryd.checked os 5 .any (fun w args => (Rows.fnExactReadValSpec.pre enc Tryd.prog Tryd.f5 Rows.fnExactReadValRow.domain false w args ∧ laidMetH Tryd.prog Rows.fnExactReadValRow.laid w) ∧ sizedMet enc Tryd.prog Tryd.f5 (OpenSpec.ofChange Rows.fnExactReadValSpec) false w args) (Rows.fnExactReadValSpec.post enc Tryd.prog Tryd.f5 false true false false) := by
  refine returnsInHanded_of_change_and (C := Tryd.checked) (X := fun w _ => laidMetH Tryd.prog Rows.fnExactReadValRow.laid w) (fun _ _ _ hh h => h.of_heap hh) own started (by kernel_rfl) Tryd.func5
    (ChangeSpec.witness_shaped (enc := enc) (C := Tryd.checked) (os := os) (X := fun w _ => laidMetH Tryd.prog Rows.fnExactReadValRow.laid w) false (World.doorLaid Tryd.prog 4000 os) #[.string ⟨#[]⟩] 8 rfl (World.shaped_of_RefB (by kernel_rfl) (by kernel_rfl)) (by kernel_rfl) (by kernel_rfl) (by kernel_rfl) (door_met os _)) ?_
  intro W base args ds gs before hval0 hW hcnd hsz0 hL _
  rw [MakeChecks.laidMetH_plain _ _ _ (by kernel_rfl)] at hL
  have hD : Doors W := ⟨pow10_of hL (by rw [← pow10_row]; exact List.mem_cons_of_mem _ (List.mem_cons_of_mem _ List.mem_cons_self)), errvar_of (n := "strconv.ErrSyntax") (g := 2) hL (List.mem_cons_of_mem _ (List.mem_cons_of_mem _ (List.mem_cons_of_mem _ (List.mem_cons_of_mem _ List.mem_cons_self)))) (by kernel_rfl) (by kernel_rfl) Tryd.underlying52, errvar_of (n := "strconv.ErrRange") (g := 3) hL (List.mem_cons_of_mem _ (List.mem_cons_of_mem _ (List.mem_cons_of_mem _ List.mem_cons_self))) (by kernel_rfl) (by kernel_rfl) Tryd.underlying52⟩
  have hval : ∀ (j : Nat) t v, Tryd.f5.params[j]? = some t → args[j]? = some v → Value.okWide Tryd.prog W .any base t v := hval0
  have hW' := hW
  obtain ⟨p, q, hA0, hV, rfl, hfz, hnd⟩ := hW
  have hA : DataW.TrodAll enc Tryd.prog W 0 (fun _ => true) true Tryd.f5.params.toList args.toList ds p := hA0
  rw [Tryd.params5] at hA hval
  obtain ⟨v0, vs0, d0, ds0, p0, q0, hargs, rfl, rfl, h0, r0⟩ := trodAll_cons hA
  obtain ⟨rfl, rfl, rfl⟩ := trodAll_nil r0
  obtain rfl : args = #[v0] := by cases args; simp_all
  obtain ⟨rfl, rfl⟩ := trodVars_none hV
  have k0 := h0
  have lt0 : ∀ x ∈ p0, x.block < W.heap.size := by obtain ⟨m, hm⟩ := k0; exact DataW.trod_lt m _ _ _ hm
  obtain ⟨s0, rfl, _, _, hs0⟩ := open_string Tryd.underlying9 (hval 0 9 v0 rfl rfl) h0
  clear hA0 hval0 hsz0
  refine (law_FnExactReadVal s0 hs0 W hD).mono fun e W' ⟨he, bel⟩ => ?_
  subst he
  exact ⟨_, rfl, _, _, _, [], _, [], hW', trodAll_mk1 (shut_bool Tryd.underlying4 _), (trodAll_cons_mk (Below.trod laidOut (by kernel_rfl) (of_decide_eq_true (by kernel_rfl)) k0 bel lt0) trodAll_mk0), rfl, Below.frame bel _, fun h => by cases h⟩
theorem jA : (Rows.fnExactReadValRow.inPlace == Tryd.pinned.checked.prog.inPlace 5) = true := by kernel_rfl
theorem jB : (Rows.fnExactReadValRow.unfollowed == Tryd.pinned.checked.prog.unfollowed 5) = true := by kernel_rfl
theorem jC : (Rows.fnExactReadValRow.recurses == Tryd.pinned.checked.prog.recurses 5) = true := by kernel_rfl
theorem jD : (Rows.fnExactReadValRow.named == Tryd.pinned.checked.prog.varsNamed 5) = true := by kernel_rfl
/-- What the row says of the code that is reached, part by part: less memory than all at once. -/
theorem closed : joinedFacts Tryd.pinned.checked.prog 5 Tryd.f5 Rows.fnExactReadValSpec Rows.fnExactReadValRow = true := by
  unfold joinedFacts
  rw [jA, jB, jC, jD]
  kernel_rfl
theorem wrap : Tryd.f5.isWrapper Tryd.pinned.checked.prog Rows.fnExactReadValRow.wrapper Rows.fnExactReadValRow.mainSum := by
  unfold Func.isWrapper; first | (rw [if_pos (by decide +kernel)]; kernel_rfl) | (rw [if_neg (by decide +kernel)]; exact ⟨rfl, rfl⟩)
theorem inst : Tryd.f5.isInstance Tryd.pinned.checked.prog Rows.fnExactReadValRow.origin Rows.fnExactReadValRow.targs := of_decide_eq_true (by kernel_rfl)
theorem nam : Tryd.pinned.checked.prog.funcNamed Rows.fnExactReadValRow.func = some 5 := by kernel_rfl
theorem over : Rows.fnExactReadValRow.holds Tryd.pinned (OpenSpec.ofChange Rows.fnExactReadValSpec) :=
  OpenClaim.holds_of_wide 5 Tryd.f5 rfl rfl rfl rfl rfl rfl rfl ⟨rfl, rfl, rfl, rfl, rfl⟩ rfl rfl rfl rfl rfl nam Tryd.func5 closed inst wrap
    (fun os started H enc _ => lifted os started H enc)
theorem proved : Rows.FnExactReadValSaid := over
/-- The tied card. -/
theorem card : Rows.FnExactReadValCardSaid :=
  Claim7.holds_tied_plain_at .later [] _ true _ true
    proved (fun _ h => by cases h) (by kernel_rfl) (fun _ h => by cases h) fnExactReadVal_row_tie rfl ⟨rfl, rfl⟩ (by kernel_rfl) rfl
    (fun f fn hf hfn => by
      obtain rfl := Option.some.inj (nam.symm.trans hf)
      obtain rfl := Option.some.inj (Tryd.func5.symm.trans hfn)
      exact ⟨by kernel_rfl, fun j t ht => by
        have hall : (Tryd.f5.params.toList.all fun u => !Tryd.prog.wantsStandIn u) = true := by kernel_rfl
        have hm : t ∈ Tryd.f5.params.toList := Array.mem_toList_iff.mpr (Array.mem_of_getElem? ht)
        exact (show Tryd.prog.wantsStandIn t = false by simpa using List.all_eq_true.1 hall t hm)⟩)
    (by kernel_rfl)
#print axioms card
end Go.Proofs.YtboichhelfahlaaDoor.FnExactReadVal
namespace Go.Proofs.YtboichhelfahlaaDoor
/-- The row, for the claim. -/
theorem fnExactReadVal_holds : Rows.FnExactReadValCardSaid := FnExactReadVal.card
end Go.Proofs.YtboichhelfahlaaDoor
