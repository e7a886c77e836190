/- The law FnValTexts returns true for every code: a right value comes back from its text, and what is read, written again, has just its bytes. The library's tables and errors lie as their initialisers lay them. -/
import Derived.Test.YtboichhelfahlaaDoorRows
import Derived.Test.YtboichhelfahlaaDoorTie
import Derived.Test.YtboichhelfahlaaDoorCards
import Derived.Test.YtboichhelfahlaaDoorLaidD
import Derived.Test.YtboichhelfahlaaDoorTextX
import Derived.Test.YtboichhelfahlaaDoorTextD
import Derived.Test.YtboichhelfahlaaDoorLawVals
import Derived.SevenTiedAt
import Derived.ProofKit
import Derived.OpenShut
import Derived.ShutString
import Derived.ChangeOld
import Derived.SizedLaws
namespace Go.Proofs.YtboichhelfahlaaDoor
open Go.RowKit
set_option linter.unusedVariables false
set_option linter.unusedSimpArgs false
theorem big_anyV {A : Option Addr} {len cap : Nat} (w : World) (hl : len ≤ maxLen) : Calls Tryd.prog 19 #[.slice A len cap] w (Just w (.bool (decide ((len : Int) > 1048576)))) := by
  unfold maxLen at hl
  go_enter Tryd.func19, Tryd.ntmps19
  go_wp2
  go_ret
  exact ⟨ret_bool (by simp), rfl⟩
theorem text_len2 {v : Val} (h : okB v = true) : (textL v).length ≤ 100 := by
  rcases ok_cases h with rfl | ⟨n, h0, h1, rfl⟩ | ⟨s, hs, rfl⟩
  · rw [text_zero]; decide
  · rw [text_int h0 h1]
    by_cases hneg : n < 0
    · obtain ⟨u, rfl⟩ : ∃ u : Nat, n = -(u : Int) := ⟨n.natAbs, by omega⟩
      rw [Lib.itoa_neg u (by omega)]
      have := dec_len u (by omega)
      simp only [List.length_cons]; omega
    · obtain ⟨u, rfl⟩ : ∃ u : Nat, n = u := ⟨n.toNat, by omega⟩
      rw [Lib.itoa_nonneg]
      have := dec_len u (by omega)
      omega
  · rw [text_str hs]
    have h2 := body_len s.data.toList
    have h3 : s.data.toList.length = s.size := rfl
    simp only [List.length_cons, List.length_append, List.length_nil]
    omega
theorem text_fit (v : Val) : (strOf (textL v)).size ≤ 1048576 := by
  rw [strOf_size]
  cases h : okB v with
  | false => rw [text_bad h]; decide
  | true => exact Nat.le_trans (text_len2 h) (by decide)
set_option maxHeartbeats 4000000 in
set_option maxRecDepth 20000 in
theorem law_FnValTexts (A : Option Addr) (len cap : Nat) (xs : List Int) {W : World} (h : IsSl Kd.byte W (· < W.heap.size) A len cap xs) (w : World) (hw : w = W) (hd : Doors w) :
    Calls Tryd.prog 6 #[.slice A len cap] w (Ret w (.bool true)) := by
  subst hw
  have HD := Lib.hid hd
  clear hd
  have hl := Nat.le_trans h.2.1 h.2.2.1
  go_enter Tryd.func6, Tryd.ntmps6
  go_wp2_with fail
  refine (big_anyV _ hl).mono ?_
  rintro e w0 ⟨rfl, rfl⟩
  clear hl
  by_cases hb : (len : Int) > 1048576
  · rw [decide_eq_true hb]
    go_wp2_with fail
    go_ret
    exact ⟨rfl, Grow.refl _⟩
  rw [decide_eq_false hb]
  clear hb
  go_wp2_with fail
  refine (drawValText_any _ h).mono ?_
  rintro e w1 ⟨⟨k, n, s⟩, rfl, ha, hG1⟩
  dsimp only at ha ⊢
  go_wp2_with fail
  generalize hU : World.alloc w1 _ = U
  obtain ⟨gU, sU, kU⟩ := boxed1 hU
  clear hU
  have gU0 := hG1.trans gU
  obtain ⟨T, hT⟩ : ∃ T, strOf (textL ⟨k, n, s⟩) = T := ⟨_, rfl⟩
  have HT := Lib.hid hT
  have HTL : Hid (T.data.toList = textL ⟨k, n, s⟩) := Lib.hid (by rw [← hT, strOf_toList])
  have HTF : Hid (T.size ≤ 1048576) := Lib.hid (by rw [← hT]; exact text_fit _)
  clear hT ha
  refine (iValText_any ⟨k, n, s⟩ U (HD.out.grow gU0).ten).mono ?_
  rw [HT.out]
  rintro e w2 ⟨rfl, g2⟩
  have HRV := Lib.hid (iReadVal_any T w2 HTF.out (HD.out.grow (gU0.trans g2)))
  obtain ⟨q, hq⟩ : ∃ q, okB ⟨k, n, s⟩ = q := ⟨_, rfl⟩
  have HQ := Lib.hid hq
  cases q with
  | true =>
    have hRV := HRV.out
    rw [HTL.out, readV_text hq] at hRV
    clear hq
    go_wp2_with fail
    refine hRV.mono ?_
    clear hRV
    rintro e w3 ⟨rfl, g3⟩
    have g23 := g2.trans g3
    have k3 : ∀ o, w3.cell? ⟨w1.heap.size, o, none⟩ = (#[.int .i64 k, .int .i64 n, .string s] : Array Value)[o]? := fun o => (g23.same _ _ sU).trans (kU o)
    have s3 := Nat.lt_of_lt_of_le sU g23.size
    have g03 := gU0.trans g23
    clear kU sU g2 g3 g23
    go_wp2_with fail
    generalize hV : World.alloc w3 _ = V
    obtain ⟨gV, sV, kV⟩ := boxed1 hV
    clear hV
    have k4 : ∀ o, V.cell? ⟨w1.heap.size, o, none⟩ = (#[.int .i64 k, .int .i64 n, .string s] : Array Value)[o]? := fun o => (gV.same _ _ s3).trans (k3 o)
    have s4 := Nat.lt_of_lt_of_le s3 gV.size
    refine (sValText_any ⟨k, n, s⟩ _).mono ?_
    rw [HT.out]
    rintro e w4 ⟨rfl, g4⟩
    have k5 : ∀ o, w4.cell? ⟨w1.heap.size, o, none⟩ = (#[.int .i64 k, .int .i64 n, .string s] : Array Value)[o]? := fun o => (g4.same _ _ s4).trans (k4 o)
    have k6 : ∀ o, w4.cell? ⟨w3.heap.size, o, none⟩ = _ := fun o => (g4.same _ _ sV).trans (kV o)
    have s5 := Nat.lt_of_lt_of_le s4 g4.size
    have s6 := Nat.lt_of_lt_of_le sV g4.size
    clear k3 k4 s3 s4
    go_wp2_with fail
    refine (iValOk_any _ _ _ _).mono ?_
    rw [HQ.out]
    rintro e w5 ⟨rfl, g5⟩
    have k7 : ∀ o, w5.cell? ⟨w1.heap.size, o, none⟩ = (#[.int .i64 k, .int .i64 n, .string s] : Array Value)[o]? := fun o => (g5.same _ _ s5).trans (k5 o)
    have k8 : ∀ o, w5.cell? ⟨w3.heap.size, o, none⟩ = _ := fun o => (g5.same _ _ s6).trans (k6 o)
    have s7 := Nat.lt_of_lt_of_le s5 g5.size
    have s8 := Nat.lt_of_lt_of_le s6 g5.size
    have g05 := g03.trans (gV.trans (g4.trans g5))
    clear k5 k6 s5 s6 kV sV g4 g5 gV
    go_wp2_with fail
    refine (drawReadVal_any _ (h.grow g05)).mono ?_
    rintro e w6 ⟨t, rfl, ht, g6⟩
    have g06 := g05.trans g6
    clear k7 k8 s7 s8
    obtain ⟨⟨y, fine⟩, hr⟩ : ∃ r, readV t.data.toList = r := ⟨_, rfl⟩
    have HR := Lib.hid hr
    have HA := fun w => sReadVal_any t w (Nat.le_trans ht (by decide))
    have HB := iReadVal_any t w6 (Nat.le_trans ht (by decide)) (HD.out.grow g06)
    rw [hr] at HA HB
    clear hr ht
    go_wp2_with fail
    refine HB.mono ?_
    rintro e w7 ⟨rfl, g7⟩
    dsimp only
    go_wp2_with fail
    generalize hX : World.alloc w7 _ = X
    obtain ⟨gX, sX, kX⟩ := boxed1 hX
    clear hX
    refine (HA _).mono ?_
    rintro e w8 ⟨rfl, g8⟩
    dsimp only
    have k9 : ∀ o, w8.cell? ⟨w7.heap.size, o, none⟩ = (#[.int .i64 y.kind, .int .i64 y.n, .string y.s] : Array Value)[o]? := fun o => (g8.same _ _ sX).trans (kX o)
    have s9 := Nat.lt_of_lt_of_le sX g8.size
    have g08 := g06.trans (g7.trans (gX.trans g8))
    clear kX sX HA HB
    cases fine with
    | false =>
      go_wp2_with fail
      go_ret
      exact ⟨rfl, (by repeat (with_reducible first | exact Grow.refl _ | assumption | refine Grow.drew ?_ | refine Grow.alloc ?_ _ | refine Grow.set ?_ (by first | exact Nat.le_refl _ | (simp; done) | (simp; omega) | omega) _ | exact And.left (by assumption) | refine Grow.trans ?_ (by assumption)))⟩
    | true =>
      have HY := Lib.hid (readV_back HR.out)
      have HS2 : Hid (strOf (textL y) = t) := Lib.hid (by rw [HY.out, strOf_list])
      go_wp2_with fail
      generalize hZ : World.alloc w8 _ = Z
      obtain ⟨gZ, sZ, kZ⟩ := boxed1 hZ
      clear hZ
      refine (iValText_any y _ (HD.out.grow (g08.trans gZ)).ten).mono ?_
      rw [HS2.out]
      rintro e w9 ⟨rfl, g9⟩
      have g09 := g08.trans (gZ.trans g9)
      go_wp2_with fail
      go_ret
      exact ⟨rfl, g09⟩
  | false =>
    have hRV := HRV.out
    rw [HTL.out, readV_bad hq] at hRV
    clear hq
    go_wp2_with fail
    refine hRV.mono ?_
    clear hRV
    rintro e w3 ⟨rfl, g3⟩
    have g23 := g2.trans g3
    have k3 : ∀ o, w3.cell? ⟨w1.heap.size, o, none⟩ = (#[.int .i64 k, .int .i64 n, .string s] : Array Value)[o]? := fun o => (g23.same _ _ sU).trans (kU o)
    have s3 := Nat.lt_of_lt_of_le sU g23.size
    have g03 := gU0.trans g23
    clear kU sU g2 g3 g23
    go_wp2_with fail
    generalize hV : World.alloc w3 _ = V
    obtain ⟨gV, sV, kV⟩ := boxed1 hV
    clear hV
    have k4 : ∀ o, V.cell? ⟨w1.heap.size, o, none⟩ = (#[.int .i64 k, .int .i64 n, .string s] : Array Value)[o]? := fun o => (gV.same _ _ s3).trans (k3 o)
    have s4 := Nat.lt_of_lt_of_le s3 gV.size
    refine (sValText_any ⟨k, n, s⟩ _).mono ?_
    rw [HT.out]
    rintro e w4 ⟨rfl, g4⟩
    have k5 : ∀ o, w4.cell? ⟨w1.heap.size, o, none⟩ = (#[.int .i64 k, .int .i64 n, .string s] : Array Value)[o]? := fun o => (g4.same _ _ s4).trans (k4 o)
    have k6 : ∀ o, w4.cell? ⟨w3.heap.size, o, none⟩ = _ := fun o => (g4.same _ _ sV).trans (kV o)
    have s5 := Nat.lt_of_lt_of_le s4 g4.size
    have s6 := Nat.lt_of_lt_of_le sV g4.size
    clear k3 k4 s3 s4
    go_wp2_with fail
    refine (iValOk_any _ _ _ _).mono ?_
    rw [HQ.out]
    rintro e w5 ⟨rfl, g5⟩
    have k7 : ∀ o, w5.cell? ⟨w1.heap.size, o, none⟩ = (#[.int .i64 k, .int .i64 n, .string s] : Array Value)[o]? := fun o => (g5.same _ _ s5).trans (k5 o)
    have k8 : ∀ o, w5.cell? ⟨w3.heap.size, o, none⟩ = _ := fun o => (g5.same _ _ s6).trans (k6 o)
    have s7 := Nat.lt_of_lt_of_le s5 g5.size
    have s8 := Nat.lt_of_lt_of_le s6 g5.size
    have g05 := g03.trans (gV.trans (g4.trans g5))
    clear k5 k6 s5 s6 kV sV g4 g5 gV
    go_wp2_with fail
    refine (drawReadVal_any _ (h.grow g05)).mono ?_
    rintro e w6 ⟨t, rfl, ht, g6⟩
    have g06 := g05.trans g6
    clear k7 k8 s7 s8
    obtain ⟨⟨y, fine⟩, hr⟩ : ∃ r, readV t.data.toList = r := ⟨_, rfl⟩
    have HR := Lib.hid hr
    have HA := fun w => sReadVal_any t w (Nat.le_trans ht (by decide))
    have HB := iReadVal_any t w6 (Nat.le_trans ht (by decide)) (HD.out.grow g06)
    rw [hr] at HA HB
    clear hr ht
    go_wp2_with fail
    refine HB.mono ?_
    rintro e w7 ⟨rfl, g7⟩
    dsimp only
    go_wp2_with fail
    generalize hX : World.alloc w7 _ = X
    obtain ⟨gX, sX, kX⟩ := boxed1 hX
    clear hX
    refine (HA _).mono ?_
    rintro e w8 ⟨rfl, g8⟩
    dsimp only
    have k9 : ∀ o, w8.cell? ⟨w7.heap.size, o, none⟩ = (#[.int .i64 y.kind, .int .i64 y.n, .string y.s] : Array Value)[o]? := fun o => (g8.same _ _ sX).trans (kX o)
    have s9 := Nat.lt_of_lt_of_le sX g8.size
    have g08 := g06.trans (g7.trans (gX.trans g8))
    clear kX sX HA HB
    cases fine with
    | false =>
      go_wp2_with fail
      go_ret
      exact ⟨rfl, (by repeat (with_reducible first | exact Grow.refl _ | assumption | refine Grow.drew ?_ | refine Grow.alloc ?_ _ | refine Grow.set ?_ (by first | exact Nat.le_refl _ | (simp; done) | (simp; omega) | omega) _ | exact And.left (by assumption) | refine Grow.trans ?_ (by assumption)))⟩
    | true =>
      have HY := Lib.hid (readV_back HR.out)
      have HS2 : Hid (strOf (textL y) = t) := Lib.hid (by rw [HY.out, strOf_list])
      go_wp2_with fail
      generalize hZ : World.alloc w8 _ = Z
      obtain ⟨gZ, sZ, kZ⟩ := boxed1 hZ
      clear hZ
      refine (iValText_any y _ (HD.out.grow (g08.trans gZ)).ten).mono ?_
      rw [HS2.out]
      rintro e w9 ⟨rfl, g9⟩
      have g09 := g08.trans (gZ.trans g9)
      go_wp2_with fail
      go_ret
      exact ⟨rfl, g09⟩
end Go.Proofs.YtboichhelfahlaaDoor
namespace Go.Proofs.YtboichhelfahlaaDoor.FnValTexts
open Go.ChangeShapes Go.WideShapes Go.ChangeAt Go.RowKit
open Go.ChangeMaps (open_string shut_string)
theorem own : ownKnob Tryd.prog.godebug = none := by kernel_rfl
theorem laidOut : laidOutB Tryd.prog = true := by kernel_rfl
set_option maxRecDepth 100000 in
theorem door_met (os : Os) (args : Array Value) : laidMetH Tryd.prog Rows.fnValTextsRow.laid ((World.doorLaid Tryd.prog 4000 os).forCall (fun _ _ => 0) ⟨#[], args, []⟩).memory := by
  rw [MakeChecks.laidMetH_plain _ _ _ (by kernel_rfl)]
  exact laidMet_of_run' 8 (by kernel_rfl) (by kernel_rfl)
set_option maxRecDepth 100000 in
theorem lifted (os : Os) (started : os.Started) (H : Type) (enc : TypeId × Value → H) :
    ReturnsInHanded {} Tryd.checked os 6 .any (fun w args => (Rows.fnValTextsSpec.pre enc Tryd.prog Tryd.f6 Rows.fnValTextsRow.domain false w args ∧ laidMetH Tryd.prog Rows.fnValTextsRow.laid w) ∧ sizedMet enc Tryd.prog Tryd.f6 (OpenSpec.ofChange Rows.fnValTextsSpec) false w args) (Rows.fnValTextsSpec.post enc Tryd.prog Tryd.f6 false true false false) := by
  refine returnsInHanded_of_change_and (C := Tryd.checked) (X := fun w _ => laidMetH Tryd.prog Rows.fnValTextsRow.laid w) (fun _ _ _ hh h => h.of_heap hh) own started (by kernel_rfl) Tryd.func6
    (ChangeSpec.witness_shaped (enc := enc) (C := Tryd.checked) (os := os) (X := fun w _ => laidMetH Tryd.prog Rows.fnValTextsRow.laid w) false (World.doorLaid Tryd.prog 4000 os) #[.slice none 0 0] 8 rfl (World.shaped_of_RefB (by kernel_rfl) (by kernel_rfl)) (by kernel_rfl) (by kernel_rfl) (by kernel_rfl) (door_met os _)) ?_
  intro W base args ds gs before hval0 hW hcnd hsz0 hL _
  rw [MakeChecks.laidMetH_plain _ _ _ (by kernel_rfl)] at hL
  have hD : Doors W := ⟨pow10_of hL (by rw [← pow10_row]; exact List.mem_cons_of_mem _ (List.mem_cons_of_mem _ List.mem_cons_self)), errvar_of (n := "strconv.ErrSyntax") (g := 2) hL (List.mem_cons_of_mem _ (List.mem_cons_of_mem _ (List.mem_cons_of_mem _ (List.mem_cons_of_mem _ List.mem_cons_self)))) (by kernel_rfl) (by kernel_rfl) Tryd.underlying52, errvar_of (n := "strconv.ErrRange") (g := 3) hL (List.mem_cons_of_mem _ (List.mem_cons_of_mem _ (List.mem_cons_of_mem _ List.mem_cons_self))) (by kernel_rfl) (by kernel_rfl) Tryd.underlying52⟩
  have hval : ∀ (j : Nat) t v, Tryd.f6.params[j]? = some t → args[j]? = some v → Value.okWide Tryd.prog W .any base t v := hval0
  have hW' := hW
  obtain ⟨p, q, hA0, hV, rfl, hfz, hnd⟩ := hW
  have hA : DataW.TrodAll enc Tryd.prog W 0 (fun _ => true) true Tryd.f6.params.toList args.toList ds p := hA0
  rw [Tryd.params6] at hA hval
  obtain ⟨v0, vs0, d0, ds0, p0, q0, hargs, rfl, rfl, h0, r0⟩ := trodAll_cons hA
  obtain ⟨rfl, rfl, rfl⟩ := trodAll_nil r0
  obtain rfl : args = #[v0] := by cases args; simp_all
  obtain ⟨rfl, rfl⟩ := trodVars_none hV
  have k0 := h0
  have lt0 : ∀ x ∈ p0, x.block < W.heap.size := by obtain ⟨m, hm⟩ := k0; exact DataW.trod_lt m _ _ _ hm
  obtain ⟨A0, len0, cap0, rfl⟩ := okWide_slice Tryd.underlying40 (hval 0 40 v0 rfl rfl)
  obtain ⟨xs0, e0⟩ := opens_bytes.of h0
  replace e0 := isSl_of e0
  clear hA0 hval0 hsz0
  refine (law_FnValTexts A0 len0 cap0 xs0 e0 W rfl hD).mono fun e W' ⟨he, bel⟩ => ?_
  subst he
  exact ⟨_, rfl, _, _, _, [], _, [], hW', trodAll_mk1 (shut_bool Tryd.underlying4 _), (trodAll_cons_mk (Below.trod laidOut (by kernel_rfl) (of_decide_eq_true (by kernel_rfl)) k0 bel lt0) trodAll_mk0), rfl, Below.frame bel _, fun h => by cases h⟩
theorem jA : (Rows.fnValTextsRow.inPlace == Tryd.pinned.checked.prog.inPlace 6) = true := by kernel_rfl
theorem jB : (Rows.fnValTextsRow.unfollowed == Tryd.pinned.checked.prog.unfollowed 6) = true := by kernel_rfl
theorem jC : (Rows.fnValTextsRow.recurses == Tryd.pinned.checked.prog.recurses 6) = true := by kernel_rfl
theorem jD : (Rows.fnValTextsRow.named == Tryd.pinned.checked.prog.varsNamed 6) = true := by kernel_rfl
/-- What the row says of the code that is reached, part by part: less memory than all at once. -/
theorem closed : joinedFacts Tryd.pinned.checked.prog 6 Tryd.f6 Rows.fnValTextsSpec Rows.fnValTextsRow = true := by
  unfold joinedFacts
  rw [jA, jB, jC, jD]
  kernel_rfl
theorem wrap : Tryd.f6.isWrapper Tryd.pinned.checked.prog Rows.fnValTextsRow.wrapper Rows.fnValTextsRow.mainSum := by
  unfold Func.isWrapper; first | (rw [if_pos (by decide +kernel)]; kernel_rfl) | (rw [if_neg (by decide +kernel)]; exact ⟨rfl, rfl⟩)
theorem inst : Tryd.f6.isInstance Tryd.pinned.checked.prog Rows.fnValTextsRow.origin Rows.fnValTextsRow.targs := of_decide_eq_true (by kernel_rfl)
theorem nam : Tryd.pinned.checked.prog.funcNamed Rows.fnValTextsRow.func = some 6 := by kernel_rfl
theorem over : Rows.fnValTextsRow.holds Tryd.pinned (OpenSpec.ofChange Rows.fnValTextsSpec) :=
  OpenClaim.holds_of_wide 6 Tryd.f6 rfl rfl rfl rfl rfl rfl rfl ⟨rfl, rfl, rfl, rfl, rfl⟩ rfl rfl rfl rfl rfl nam Tryd.func6 closed inst wrap
    (fun os started H enc _ => lifted os started H enc)
theorem proved : Rows.FnValTextsSaid := over
/-- The tied card. -/
theorem card : Rows.FnValTextsCardSaid :=
  Claim7.holds_tied_plain_at .later [] _ true _ true
    proved (fun _ h => by cases h) (by kernel_rfl) (fun _ h => by cases h) fnValTexts_row_tie rfl ⟨rfl, rfl⟩ (by kernel_rfl) rfl
    (fun f fn hf hfn => by
      obtain rfl := Option.some.inj (nam.symm.trans hf)
      obtain rfl := Option.some.inj (Tryd.func6.symm.trans hfn)
      exact ⟨by kernel_rfl, fun j t ht => by
        have hall : (Tryd.f6.params.toList.all fun u => !Tryd.prog.wantsStandIn u) = true := by kernel_rfl
        have hm : t ∈ Tryd.f6.params.toList := Array.mem_toList_iff.mpr (Array.mem_of_getElem? ht)
        exact (show Tryd.prog.wantsStandIn t = false by simpa using List.all_eq_true.1 hall t hm)⟩)
    (by kernel_rfl)
#print axioms card
end Go.Proofs.YtboichhelfahlaaDoor.FnValTexts
namespace Go.Proofs.YtboichhelfahlaaDoor
/-- The row, for the claim. -/
theorem fnValTexts_holds : Rows.FnValTextsCardSaid := FnValTexts.card
end Go.Proofs.YtboichhelfahlaaDoor
