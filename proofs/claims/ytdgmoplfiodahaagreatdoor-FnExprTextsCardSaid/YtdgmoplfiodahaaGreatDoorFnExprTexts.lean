/- The law FnExprTexts returns true for every code: a right expression comes back from its text, and what is read, written again, has just its bytes. The library's tables and errors lie as their initialisers lay them. -/
import Derived.Test.YtdgmoplfiodahaaGreatDoorRows
import Derived.Test.YtdgmoplfiodahaaGreatDoorTie
import Derived.Test.YtdgmoplfiodahaaGreatDoorCards
import Derived.Test.YtdgmoplfiodahaaGreatDoorGates
import Derived.Test.YtdgmoplfiodahaaGreatDoorTextH
import Derived.Test.YtdgmoplfiodahaaGreatDoorLawVals
import Derived.SevenTiedAt
import Derived.ProofKit
import Derived.OpenShut
import Derived.ShutString
import Derived.ChangeOld
import Derived.SizedLaws
namespace Go.Proofs.YtdgmoplfiodahaaGreatDoor
open Go.RowKit
set_option linter.unusedVariables false
set_option linter.unusedSimpArgs false
theorem big_anyE {A : Option Addr} {len cap : Nat} (w : World) (hl : len ≤ maxLen) : Calls Tryz.prog 10 #[.slice A len cap] w (Just w (.bool (decide ((len : Int) > 1048576)))) := by
  unfold maxLen at hl
  go_enter Tryz.func10, Tryz.ntmps10
  go_wp2
  go_ret
  exact ⟨ret_bool (by simp), rfl⟩
theorem readE_none : readE [] = ([], false) := readE_not (.inl rfl)
theorem strs_eq2 (a b : ByteArray) : (a.toList == b.toList) = decide (a.data.toList = b.data.toList) := by
  rw [ByteArray.toList_eq, ByteArray.toList_eq, Bool.eq_iff_iff, beq_iff_eq, decide_eq_true_eq]
set_option maxHeartbeats 4000000 in
set_option maxRecDepth 20000 in
theorem law_FnExprTexts (A : Option Addr) (len cap : Nat) (xs : List Int) {W : World} (h : IsSl Kd.byte W (· < W.heap.size) A len cap xs) (w : World) (hw : w = W) (hd : Gates w) :
    Calls Tryz.prog 4 #[.slice A len cap] w (Ret w (.bool true)) := by
  subst hw
  have HD := Lib.hid hd
  clear hd
  have hl := Nat.le_trans h.2.1 h.2.2.1
  go_enter Tryz.func4, Tryz.ntmps4
  go_wp2_with fail
  refine (big_anyE _ hl).mono ?_
  rintro e w0 ⟨rfl, rfl⟩
  clear hl
  by_cases hb : (len : Int) > 1048576
  · rw [decide_eq_true hb]
    go_wp2_with fail
    go_ret
    exact ⟨rfl, Grow.refl _⟩
  rw [decide_eq_false hb]
  clear hb
  go_wp2_with fail
  refine (drawExprText_any _ h).mono ?_
  rintro e w1 ⟨A1, n1, c1, ex, rfl, k1, hn1, g1⟩
  have s1 := k1.fresh
  obtain ⟨T, hT⟩ : ∃ T, strOf (textE ex) = T := ⟨_, rfl⟩
  have HTL : Hid (T.data.toList = textE ex) := Lib.hid (by rw [← hT, strOf_toList])
  have HTF : Hid (T.size ≤ 1048576) := Lib.hid (by rw [← hT, strOf_size]; exact Nat.le_trans (textE_len ex) (by decide))
  have HA := fun w h hp => iExprText_any (A := A1) (len := n1) (cap := c1) (e := ex) w h hp
  have HS := fun w h => sExprText_any (A := A1) (len := n1) (cap := c1) (e := ex) w h
  have HI := fun w h => iReadExpr_any T w HTF.out h
  rw [hT] at HA HS
  rw [HTL.out] at HI
  clear hT k1 hn1
  go_wp2_with fail
  refine (HA _ s1 (HD.out.grow g1).doors.ten).mono ?_
  rintro e w2 ⟨rfl, g2⟩
  have g02 := g1.trans g2
  have s2 := s1.grow g2
  have HE : Hid ((T.toList == []) = !exprB 16 ex) := Lib.hid (by
    rw [ByteArray.toList_eq, HTL.out]
    cases hq : exprB 16 ex with
    | true => simpa using textE_ne hq
    | false => rw [readE_bad hq]; rfl)
  cases hq : exprB 16 ex with
  | true =>
    have hT0 : (T.toList == []) = false := by rw [HE.out, hq]; rfl
    rw [readE_text hq] at HI
    clear hq
    go_wp2_with fail
    refine (HI _ (HD.out.grow g02)).mono ?_
    rintro e w3 ⟨A3, n3, c3, rfl, k3, g3⟩
    have s3 := k3.fresh
    go_wp2_with fail
    refine (HS _ (s2.grow g3)).mono ?_
    rintro e w4 ⟨rfl, g4⟩
    go_wp2_with fail
    refine (sameToks_any _ (s3.grow g4) (s2.grow (g3.trans g4))).mono ?_
    rintro e w5 ⟨rfl, g5⟩
    have g05 := g02.trans (g3.trans (g4.trans g5))
    go_wp2_with fail
    refine (drawReadExpr_any _ (h.grow g05)).mono ?_
    rintro e w6 ⟨t, rfl, ht, g6⟩
    have g06 := g05.trans g6
    have HA2 := fun w => sReadExpr_any t w (Nat.le_trans ht (by decide))
    have HB2 := fun w h => iReadExpr_any t w (Nat.le_trans ht (by decide)) h
    obtain ⟨⟨y, fine⟩, hr⟩ : ∃ r, readE t.data.toList = r := ⟨_, rfl⟩
    rw [hr] at HA2 HB2
    have HR := Lib.hid hr
    clear ht hr
    go_wp2_with fail
    refine (HB2 _ (HD.out.grow g06)).mono ?_
    rintro e w7 ⟨A7, n7, c7, rfl, k7, g7⟩
    dsimp only at k7 ⊢
    go_wp2_with fail
    refine (HA2 _).mono ?_
    rintro e w8 ⟨A8, n8, c8, rfl, k8, g8⟩
    dsimp only at k8 ⊢
    have g08 := g06.trans (g7.trans g8)
    have s7 := k7.fresh.grow g8
    clear HA2 HB2 k7 k8
    cases fine with
    | false =>
      go_wp2
      go_ret
      exact ⟨rfl, g08⟩
    | true =>
      have HX := iExprText_any _ s7 (HD.out.grow g08).doors.ten
      rw [readE_back HR.out, strOf_list] at HX
      go_wp2_with fail
      refine HX.mono ?_
      rintro e w9 ⟨rfl, g9⟩
      go_wp2
      go_ret
      exact ⟨rfl, g08.trans g9⟩
  | false =>
    have hT0 : (T.toList == []) = true := by rw [HE.out, hq]; rfl
    rw [readE_bad hq, readE_none] at HI
    clear hq
    go_wp2_with fail
    refine (HI _ (HD.out.grow g02)).mono ?_
    rintro e w3 ⟨A3, n3, c3, rfl, k3, g3⟩
    go_wp2_with fail
    refine (HS _ (s2.grow g3)).mono ?_
    rintro e w4 ⟨rfl, g4⟩
    have g05 := g02.trans (g3.trans g4)
    go_wp2_with fail
    refine (drawReadExpr_any _ (h.grow g05)).mono ?_
    rintro e w6 ⟨t, rfl, ht, g6⟩
    have g06 := g05.trans g6
    have HA2 := fun w => sReadExpr_any t w (Nat.le_trans ht (by decide))
    have HB2 := fun w h => iReadExpr_any t w (Nat.le_trans ht (by decide)) h
    obtain ⟨⟨y, fine⟩, hr⟩ : ∃ r, readE t.data.toList = r := ⟨_, rfl⟩
    rw [hr] at HA2 HB2
    have HR := Lib.hid hr
    clear ht hr
    go_wp2_with fail
    refine (HB2 _ (HD.out.grow g06)).mono ?_
    rintro e w7 ⟨A7, n7, c7, rfl, k7, g7⟩
    dsimp only at k7 ⊢
    go_wp2_with fail
    refine (HA2 _).mono ?_
    rintro e w8 ⟨A8, n8, c8, rfl, k8, g8⟩
    dsimp only at k8 ⊢
    have g08 := g06.trans (g7.trans g8)
    have s7 := k7.fresh.grow g8
    clear HA2 HB2 k7 k8
    cases fine with
    | false =>
      go_wp2
      go_ret
      exact ⟨rfl, g08⟩
    | true =>
      have HX := iExprText_any _ s7 (HD.out.grow g08).doors.ten
      rw [readE_back HR.out, strOf_list] at HX
      go_wp2_with fail
      refine HX.mono ?_
      rintro e w9 ⟨rfl, g9⟩
      go_wp2
      go_ret
      exact ⟨rfl, g08.trans g9⟩
end Go.Proofs.YtdgmoplfiodahaaGreatDoor
namespace Go.Proofs.YtdgmoplfiodahaaGreatDoor.FnExprTexts
open Go.ChangeShapes Go.WideShapes Go.ChangeAt Go.RowKit
open Go.ChangeMaps (open_string shut_string)
theorem own : ownKnob Tryz.prog.godebug = none := by kernel_rfl
theorem laidOut : laidOutB Tryz.prog = true := by kernel_rfl
set_option maxRecDepth 100000 in
theorem door_met (os : Os) (args : Array Value) : laidMetH Tryz.prog Rows.fnExprTextsRow.laid ((World.laidAll Tryz.prog os Rows.fnExprTextsRow.laid).forCall (fun _ _ => 0) ⟨#[], args, []⟩).memory := by
  rw [MakeChecks.laidMetH_plain _ _ _ (by kernel_rfl)]
  exact laidMet_laidAll _ (by kernel_rfl) (by kernel_rfl)
set_option maxRecDepth 100000 in
theorem lifted (os : Os) (started : os.Started) (H : Type) (enc : TypeId × Value → H) :
    ReturnsInHanded {} Tryz.checked os 4 .any (fun w args => (Rows.fnExprTextsSpec.pre enc Tryz.prog Tryz.f4 Rows.fnExprTextsRow.domain false w args ∧ laidMetH Tryz.prog Rows.fnExprTextsRow.laid w) ∧ sizedMet enc Tryz.prog Tryz.f4 (OpenSpec.ofChange Rows.fnExprTextsSpec) false w args) (Rows.fnExprTextsSpec.post enc Tryz.prog Tryz.f4 false true false false) := by
  refine returnsInHanded_and_shaped (C := Tryz.checked) (X := fun w _ => laidMetH Tryz.prog Rows.fnExprTextsRow.laid w) (fun _ _ _ hh h => h.of_heap hh) own started (by kernel_rfl) Tryz.func4
    (ChangeSpec.witness_shaped (enc := enc) (C := Tryz.checked) (os := os) (X := fun w _ => laidMetH Tryz.prog Rows.fnExprTextsRow.laid w) false (World.laidAll Tryz.prog os Rows.fnExprTextsRow.laid) #[.slice none 0 0] 8 (World.laidAll_os _ _ _) (World.shaped_of_ZipB (by kernel_rfl) (by kernel_rfl)) (by kernel_rfl) (by kernel_rfl) (by kernel_rfl) (door_met os _)) ?_
  intro W base args ds gs before hval0 hW hcnd hsz0 hL hS _
  rw [MakeChecks.laidMetH_plain _ _ _ (by kernel_rfl)] at hL
  have hD : Gates W := ⟨⟨pow10_of hL (by rw [← pow10_row]; exact (List.mem_cons_of_mem _ (List.mem_cons_of_mem _ List.mem_cons_self))), errvar_of (n := "strconv.ErrSyntax") (g := 1) hL (List.mem_cons_of_mem _ (List.mem_cons_of_mem _ (List.mem_cons_of_mem _ (List.mem_cons_of_mem _ (List.mem_cons_of_mem _ List.mem_cons_self))))) (by kernel_rfl) (by kernel_rfl) Tryz.underlying64, errvar_of (n := "strconv.ErrRange") (g := 2) hL (List.mem_cons_of_mem _ (List.mem_cons_of_mem _ (List.mem_cons_of_mem _ (List.mem_cons_of_mem _ List.mem_cons_self)))) (by kernel_rfl) (by kernel_rfl) Tryz.underlying64⟩, Tryz.laysM146.s1_3 W hS⟩
  have hval : ∀ (j : Nat) t v, Tryz.f4.params[j]? = some t → args[j]? = some v → Value.okWide Tryz.prog W .any base t v := hval0
  have hW' := hW
  obtain ⟨p, q, hA0, hV, rfl, hfz, hnd⟩ := hW
  have hA : DataW.TrodAll enc Tryz.prog W 0 (fun _ => true) true Tryz.f4.params.toList args.toList ds p := hA0
  rw [Tryz.params4] at hA hval
  obtain ⟨v0, vs0, d0, ds0, p0, q0, hargs, rfl, rfl, h0, r0⟩ := trodAll_cons hA
  obtain ⟨rfl, rfl, rfl⟩ := trodAll_nil r0
  obtain rfl : args = #[v0] := by cases args; simp_all
  obtain ⟨rfl, rfl⟩ := trodVars_none hV
  have k0 := h0
  have lt0 : ∀ x ∈ p0, x.block < W.heap.size := by obtain ⟨m, hm⟩ := k0; exact DataW.trod_lt m _ _ _ hm
  obtain ⟨A0, len0, cap0, rfl⟩ := okWide_slice Tryz.underlying28 (hval 0 28 v0 rfl rfl)
  obtain ⟨xs0, e0⟩ := opens_bytes.of h0
  replace e0 := isSl_of e0
  clear hA0 hval0 hsz0
  refine (law_FnExprTexts A0 len0 cap0 xs0 e0 W rfl hD).mono fun e W' ⟨he, bel⟩ => ?_
  subst he
  exact ⟨_, rfl, _, _, _, [], _, [], hW', trodAll_mk1 (shut_bool Tryz.underlying4 _), (trodAll_cons_mk (Below.trod laidOut (by kernel_rfl) (of_decide_eq_true (by kernel_rfl)) k0 bel lt0) trodAll_mk0), rfl, Below.frame bel _, fun h => by cases h⟩
theorem jA : (Rows.fnExprTextsRow.inPlace == Tryz.pinned.checked.prog.inPlace 4) = true := by kernel_rfl
theorem jB : (Rows.fnExprTextsRow.unfollowed == Tryz.pinned.checked.prog.unfollowed 4) = true := by kernel_rfl
theorem jC : (Rows.fnExprTextsRow.recurses == Tryz.pinned.checked.prog.recurses 4) = true := by kernel_rfl
theorem jD : (Rows.fnExprTextsRow.named == Tryz.pinned.checked.prog.varsNamed 4) = true := by kernel_rfl
/-- What the row says of the code that is reached, part by part: less memory than all at once. -/
theorem closed : joinedFacts Tryz.pinned.checked.prog 4 Tryz.f4 Rows.fnExprTextsSpec Rows.fnExprTextsRow = true := by
  unfold joinedFacts
  rw [jA, jB, jC, jD]
  kernel_rfl
theorem wrap : Tryz.f4.isWrapper Tryz.pinned.checked.prog Rows.fnExprTextsRow.wrapper Rows.fnExprTextsRow.mainSum := by
  unfold Func.isWrapper; first | (rw [if_pos (by decide +kernel)]; kernel_rfl) | (rw [if_neg (by decide +kernel)]; exact ⟨rfl, rfl⟩)
theorem inst : Tryz.f4.isInstance Tryz.pinned.checked.prog Rows.fnExprTextsRow.origin Rows.fnExprTextsRow.targs := of_decide_eq_true (by kernel_rfl)
theorem nam : Tryz.pinned.checked.prog.funcNamed Rows.fnExprTextsRow.func = some 4 := by kernel_rfl
theorem over : Rows.fnExprTextsRow.holds Tryz.pinned (OpenSpec.ofChange Rows.fnExprTextsSpec) :=
  OpenClaim.holds_of_wide 4 Tryz.f4 rfl rfl rfl rfl rfl rfl rfl ⟨rfl, rfl, rfl, rfl, rfl⟩ rfl rfl rfl rfl rfl nam Tryz.func4 closed inst wrap
    (fun os started H enc _ => lifted os started H enc)
theorem proved : Rows.FnExprTextsSaid := over
/-- The tied card. -/
theorem card : Rows.FnExprTextsCardSaid :=
  Claim7.holds_tied_plain_at .later [] _ true _ true
    proved (fun _ h => by cases h) (by kernel_rfl) (fun _ h => by cases h) fnExprTexts_row_tie rfl ⟨rfl, rfl⟩ (by kernel_rfl) rfl
    (fun f fn hf hfn => by
      obtain rfl := Option.some.inj (nam.symm.trans hf)
      obtain rfl := Option.some.inj (Tryz.func4.symm.trans hfn)
      exact ⟨by kernel_rfl, fun j t ht => by
        have hall : (Tryz.f4.params.toList.all fun u => !Tryz.prog.wantsStandIn u) = true := by kernel_rfl
        have hm : t ∈ Tryz.f4.params.toList := Array.mem_toList_iff.mpr (Array.mem_of_getElem? ht)
        exact (show Tryz.prog.wantsStandIn t = false by simpa using List.all_eq_true.1 hall t hm)⟩)
    (by kernel_rfl)
#print axioms card
end Go.Proofs.YtdgmoplfiodahaaGreatDoor.FnExprTexts
namespace Go.Proofs.YtdgmoplfiodahaaGreatDoor
/-- The row, for the claim. -/
theorem fnExprTexts_holds : Rows.FnExprTextsCardSaid := FnExprTexts.card
end Go.Proofs.YtdgmoplfiodahaaGreatDoor
