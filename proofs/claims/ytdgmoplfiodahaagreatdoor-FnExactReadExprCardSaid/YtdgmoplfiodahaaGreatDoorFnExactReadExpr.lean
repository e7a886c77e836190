/- The law FnExactReadExpr returns true for every text: the program's ReadExpr and the reference's hand back the same, and the result's memory is its own. The library's tables and errors lie as their initialisers lay them. -/
import Derived.Test.YtdgmoplfiodahaaGreatDoorRows
import Derived.Test.YtdgmoplfiodahaaGreatDoorTie
import Derived.Test.YtdgmoplfiodahaaGreatDoorCards
import Derived.Test.YtdgmoplfiodahaaGreatDoorGates
import Derived.Test.YtdgmoplfiodahaaGreatDoorMarkT
import Derived.Test.YtdgmoplfiodahaaGreatDoorLawVals
import Derived.SevenTiedAt
import Derived.ProofKit
import Derived.OpenShut
import Derived.ShutString
import Derived.ChangeOld
import Derived.SizedLaws
namespace Go.Proofs.YtdgmoplfiodahaaGreatDoor
open Go.RowKit
set_option linter.unusedVariables false
set_option linter.unusedSimpArgs false
theorem readE_len (l : List UInt8) : (readE l).1.length ≤ 24 := by
  unfold readE
  split
  · rename_i h; rw [List.length_map]; exact h.2.1
  · exact Nat.zero_le _
set_option maxHeartbeats 4000000 in
theorem law_FnExactReadExpr (s : ByteArray) (hs : s.size ≤ maxLen) (w : World) (hd : Gates w) :
    Calls Tryz.prog 3 #[.string s] w (Ret w (.bool true)) := by
  have HDo := Lib.hid hd
  clear hd
  unfold maxLen at hs
  by_cases hl0 : s.size ≤ 1048576
  rotate_left
  · have hb : (1048576 : Int) < (s.size : Int) := by omega
    go_enter Tryz.func3, Tryz.ntmps3
    go_wp2
    go_ret
    exact ⟨rfl, (by repeat (with_reducible first | exact Grow.refl _ | assumption | refine Grow.drew ?_ | refine Grow.alloc ?_ _ | refine Grow.set ?_ (by first | exact Nat.le_refl _ | (simp; done) | (simp; omega) | omega) _ | exact And.left (by assumption) | refine Grow.trans ?_ (by assumption)))⟩
  have hb : ¬ (1048576 : Int) < (s.size : Int) := by omega
  have HA := fun w => sReadExpr_any s w hl0
  have HI := fun w h => iReadExpr_any s w hl0 h
  obtain ⟨⟨ts, ok⟩, hr⟩ : ∃ r, readE s.data.toList = r := ⟨_, rfl⟩
  have hln := readE_len s.data.toList
  rw [hr] at HA HI hln
  clear hr
  go_enter Tryz.func3, Tryz.ntmps3
  go_wp2_with fail
  refine (HA _).mono ?_
  rintro e w3 ⟨A3, l3, c3, rfl, k3, g3⟩
  go_wp2_with fail
  refine (HI _ (HDo.out.grow g3)).mono ?_
  rintro e w5 ⟨A5, l5, c5, rfl, k5, g5⟩
  have h63 : 1 + 5 * l5 ≤ 2 ^ 62 := by have h1 : ts.length = l5 := k5.1; have h2 : ts.length ≤ 24 := hln; omega
  go_wp2_with fail
  refine (eqTokS_any _ k5.fresh (k3.fresh.grow g5)).mono ?_
  rintro e w6 ⟨rfl, g6⟩
  go_wp2_with fail
  refine (markTokS_eq 1 rfl _ (isSl_inWin k5 (Nat.le_refl _) (Nat.le_refl _) g6) h63).mono ?_
  rintro e w11 ⟨rfl, W11, m11⟩
  have z3 := g3.size
  have H11 : Grow w w11 := W11.after (g3.trans (g5.trans g6)) z3
  have K3 := isSl_below (isSl_toLow k3 (g5.trans g6)) (Nat.le_refl _) W11
  have hq1 : ¬ ((1 : Int) + 5 * (l5 : Int) < 0) := by omega
  go_wp2_with fail
  refine (heldTokS_any 1 rfl _ (isSl_win m11) h63).mono ?_
  rintro e w12 ⟨rfl, g12⟩
  go_wp2_with fail
  refine (HI _ (HDo.out.grow (H11.trans g12))).mono ?_
  rintro e w13 ⟨A13, l13, c13, rfl, k13, g13⟩
  go_wp2_with fail
  refine (eqTokS_any _ k13.fresh (isSl_low (isSl_belowG K3 (g12.trans g13)))).mono ?_
  rintro e w14 ⟨rfl, g14⟩
  go_wp2_with fail
  refine (heldTokS_any 1 rfl _ ((isSl_win m11).grow (g12.trans (g13.trans g14))) h63).mono ?_
  rintro e w15 ⟨rfl, g15⟩
  go_wp2
  go_ret
  exact ⟨rfl, H11.trans (g12.trans (g13.trans (g14.trans g15)))⟩
end Go.Proofs.YtdgmoplfiodahaaGreatDoor
namespace Go.Proofs.YtdgmoplfiodahaaGreatDoor.FnExactReadExpr
open Go.ChangeShapes Go.WideShapes Go.ChangeAt Go.RowKit
open Go.ChangeMaps (open_string shut_string)
theorem own : ownKnob Tryz.prog.godebug = none := by kernel_rfl
theorem laidOut : laidOutB Tryz.prog = true := by kernel_rfl
set_option maxRecDepth 100000 in
theorem door_met (os : Os) (args : Array Value) : laidMetH Tryz.prog Rows.fnExactReadExprRow.laid ((World.laidAll Tryz.prog os Rows.fnExactReadExprRow.laid).forCall (fun _ _ => 0) ⟨#[], args, []⟩).memory := by
  rw [MakeChecks.laidMetH_plain _ _ _ (by kernel_rfl)]
  exact laidMet_laidAll _ (by kernel_rfl) (by kernel_rfl)
set_option maxRecDepth 100000 in
theorem lifted (os : Os) (started : os.Started) (H : Type) (enc : TypeId × Value → H) :
    ReturnsInHanded {} Tryz.checked os 3 .any (fun w args => (Rows.fnExactReadExprSpec.pre enc Tryz.prog Tryz.f3 Rows.fnExactReadExprRow.domain false w args ∧ laidMetH Tryz.prog Rows.fnExactReadExprRow.laid w) ∧ sizedMet enc Tryz.prog Tryz.f3 (OpenSpec.ofChange Rows.fnExactReadExprSpec) false w args) (Rows.fnExactReadExprSpec.post enc Tryz.prog Tryz.f3 false true false false) := by
  refine returnsInHanded_and_shaped (C := Tryz.checked) (X := fun w _ => laidMetH Tryz.prog Rows.fnExactReadExprRow.laid w) (fun _ _ _ hh h => h.of_heap hh) own started (by kernel_rfl) Tryz.func3
    (ChangeSpec.witness_shaped (enc := enc) (C := Tryz.checked) (os := os) (X := fun w _ => laidMetH Tryz.prog Rows.fnExactReadExprRow.laid w) false (World.laidAll Tryz.prog os Rows.fnExactReadExprRow.laid) #[.string ⟨#[]⟩] 8 (World.laidAll_os _ _ _) (World.shaped_of_ZipB (by kernel_rfl) (by kernel_rfl)) (by kernel_rfl) (by kernel_rfl) (by kernel_rfl) (door_met os _)) ?_
  intro W base args ds gs before hval0 hW hcnd hsz0 hL hS _
  rw [MakeChecks.laidMetH_plain _ _ _ (by kernel_rfl)] at hL
  have hD : Gates W := ⟨⟨pow10_of hL (by rw [← pow10_row]; exact (List.mem_cons_of_mem _ (List.mem_cons_of_mem _ List.mem_cons_self))), errvar_of (n := "strconv.ErrSyntax") (g := 1) hL (List.mem_cons_of_mem _ (List.mem_cons_of_mem _ (List.mem_cons_of_mem _ (List.mem_cons_of_mem _ (List.mem_cons_of_mem _ List.mem_cons_self))))) (by kernel_rfl) (by kernel_rfl) Tryz.underlying64, errvar_of (n := "strconv.ErrRange") (g := 2) hL (List.mem_cons_of_mem _ (List.mem_cons_of_mem _ (List.mem_cons_of_mem _ (List.mem_cons_of_mem _ List.mem_cons_self)))) (by kernel_rfl) (by kernel_rfl) Tryz.underlying64⟩, Tryz.laysM146.s1_3 W hS⟩
  have hval : ∀ (j : Nat) t v, Tryz.f3.params[j]? = some t → args[j]? = some v → Value.okWide Tryz.prog W .any base t v := hval0
  have hW' := hW
  obtain ⟨p, q, hA0, hV, rfl, hfz, hnd⟩ := hW
  have hA : DataW.TrodAll enc Tryz.prog W 0 (fun _ => true) true Tryz.f3.params.toList args.toList ds p := hA0
  rw [Tryz.params3] at hA hval
  obtain ⟨v0, vs0, d0, ds0, p0, q0, hargs, rfl, rfl, h0, r0⟩ := trodAll_cons hA
  obtain ⟨rfl, rfl, rfl⟩ := trodAll_nil r0
  obtain rfl : args = #[v0] := by cases args; simp_all
  obtain ⟨rfl, rfl⟩ := trodVars_none hV
  have k0 := h0
  have lt0 : ∀ x ∈ p0, x.block < W.heap.size := by obtain ⟨m, hm⟩ := k0; exact DataW.trod_lt m _ _ _ hm
  obtain ⟨s0, rfl, _, _, hs0⟩ := open_string Tryz.underlying9 (hval 0 9 v0 rfl rfl) h0
  clear hA0 hval0 hsz0
  refine (law_FnExactReadExpr s0 hs0 W hD).mono fun e W' ⟨he, bel⟩ => ?_
  subst he
  exact ⟨_, rfl, _, _, _, [], _, [], hW', trodAll_mk1 (shut_bool Tryz.underlying4 _), (trodAll_cons_mk (Below.trod laidOut (by kernel_rfl) (of_decide_eq_true (by kernel_rfl)) k0 bel lt0) trodAll_mk0), rfl, Below.frame bel _, fun h => by cases h⟩
theorem jA : (Rows.fnExactReadExprRow.inPlace == Tryz.pinned.checked.prog.inPlace 3) = true := by kernel_rfl
theorem jB : (Rows.fnExactReadExprRow.unfollowed == Tryz.pinned.checked.prog.unfollowed 3) = true := by kernel_rfl
theorem jC : (Rows.fnExactReadExprRow.recurses == Tryz.pinned.checked.prog.recurses 3) = true := by kernel_rfl
theorem jD : (Rows.fnExactReadExprRow.named == Tryz.pinned.checked.prog.varsNamed 3) = true := by kernel_rfl
/-- What the row says of the code that is reached, part by part: less memory than all at once. -/
theorem closed : joinedFacts Tryz.pinned.checked.prog 3 Tryz.f3 Rows.fnExactReadExprSpec Rows.fnExactReadExprRow = true := by
  unfold joinedFacts
  rw [jA, jB, jC, jD]
  kernel_rfl
theorem wrap : Tryz.f3.isWrapper Tryz.pinned.checked.prog Rows.fnExactReadExprRow.wrapper Rows.fnExactReadExprRow.mainSum := by
  unfold Func.isWrapper; first | (rw [if_pos (by decide +kernel)]; kernel_rfl) | (rw [if_neg (by decide +kernel)]; exact ⟨rfl, rfl⟩)
theorem inst : Tryz.f3.isInstance Tryz.pinned.checked.prog Rows.fnExactReadExprRow.origin Rows.fnExactReadExprRow.targs := of_decide_eq_true (by kernel_rfl)
theorem nam : Tryz.pinned.checked.prog.funcNamed Rows.fnExactReadExprRow.func = some 3 := by kernel_rfl
theorem over : Rows.fnExactReadExprRow.holds Tryz.pinned (OpenSpec.ofChange Rows.fnExactReadExprSpec) :=
  OpenClaim.holds_of_wide 3 Tryz.f3 rfl rfl rfl rfl rfl rfl rfl ⟨rfl, rfl, rfl, rfl, rfl⟩ rfl rfl rfl rfl rfl nam Tryz.func3 closed inst wrap
    (fun os started H enc _ => lifted os started H enc)
theorem proved : Rows.FnExactReadExprSaid := over
/-- The tied card. -/
theorem card : Rows.FnExactReadExprCardSaid :=
  Claim7.holds_tied_plain_at .later [] _ true _ true
    proved (fun _ h => by cases h) (by kernel_rfl) (fun _ h => by cases h) fnExactReadExpr_row_tie rfl ⟨rfl, rfl⟩ (by kernel_rfl) rfl
    (fun f fn hf hfn => by
      obtain rfl := Option.some.inj (nam.symm.trans hf)
      obtain rfl := Option.some.inj (Tryz.func3.symm.trans hfn)
      exact ⟨by kernel_rfl, fun j t ht => by
        have hall : (Tryz.f3.params.toList.all fun u => !Tryz.prog.wantsStandIn u) = true := by kernel_rfl
        have hm : t ∈ Tryz.f3.params.toList := Array.mem_toList_iff.mpr (Array.mem_of_getElem? ht)
        exact (show Tryz.prog.wantsStandIn t = false by simpa using List.all_eq_true.1 hall t hm)⟩)
    (by kernel_rfl)
#print axioms card
end Go.Proofs.YtdgmoplfiodahaaGreatDoor.FnExactReadExpr
namespace Go.Proofs.YtdgmoplfiodahaaGreatDoor
/-- The row, for the claim. -/
theorem fnExactReadExpr_holds : Rows.FnExactReadExprCardSaid := FnExactReadExpr.card
end Go.Proofs.YtdgmoplfiodahaaGreatDoor
