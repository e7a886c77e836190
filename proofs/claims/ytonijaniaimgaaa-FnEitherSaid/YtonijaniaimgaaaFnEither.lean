/- The law FnEither returns true for every code: an expression and itself is as true as it is, and it or not it is never false. No condition. -/
import Derived.Test.YtonijaniaimgaaaRows
import Derived.Test.YtonijaniaimgaaaDraw2
import Derived.Test.YtonijaniaimgaaaLit
import Derived.Test.YtonijaniaimgaaaLawBig
import Derived.Test.YtonijaniaimgaaaLawExpr
import Derived.Test.YtonijaniaimgaaaEvalS
import Derived.ProofKit
import Derived.OpenShut
import Derived.ShutString
import Derived.ChangeOld
import Derived.SizedLaws
namespace Go.Proofs.Ytonijaniaimgaaa
open Go.RowKit
set_option linter.unusedVariables false
set_option linter.unusedSimpArgs false
theorem iTruth_eq {A B : Option Addr} {la ca lb cb : Nat} {e : List Tok} {row : List Val} {r : Int} (hr : trL e row = r) (w : World) (he : IsSl Kd.tok w (· < w.heap.size) A la ca e) (hv : IsSl Kd.val w (· < w.heap.size) B lb cb row) :
    Calls Try.prog 11 #[.slice A la ca, .slice B lb cb] w (Ret w (.int .i64 r)) := by subst hr; exact iTruth_any w he hv
theorem sTruth_eq {A B : Option Addr} {la ca lb cb : Nat} {e : List Tok} {row : List Val} {r : Int} (hr : trL e row = r) (w : World) (he : IsSl Kd.tok w (· < w.heap.size) A la ca e) (hv : IsSl Kd.val w (· < w.heap.size) B lb cb row) :
    Calls Try.prog 12 #[.slice A la ca, .slice B lb cb] w (Ret w (.int .i64 r)) := by subst hr; exact sTruth_any w he hv
set_option maxHeartbeats 4000000 in
theorem law_FnEither (A : Option Addr) (len cap : Nat) (xs : List Int) {W : World} (h : IsSl Kd.byte W (· < W.heap.size) A len cap xs) (w : World) (hw : w = W) :
    Calls Try.prog 3 #[.slice A len cap] w (Ret w (.bool true)) := by
  subst hw
  have hl := Nat.le_trans h.2.1 h.2.2.1
  by_cases hbig : 1048576 < len
  · go_enter Try.func3, Try.ntmps3
    go_wp2_with fail
    refine (big_yes _ hl hbig).mono ?_
    rintro e w1 ⟨rfl, rfl⟩
    go_wp2
    go_ret
    exact ⟨rfl, Grow.refl _⟩
  go_enter Try.func3, Try.ntmps3
  go_wp2_with fail
  refine (big_no _ hl hbig).mono ?_
  rintro e w1 ⟨rfl, rfl⟩
  go_wp2_with fail
  refine (drawTruth_any _ h).mono ?_
  rintro e w1 ⟨A1, B1, n1, c1, m1, d1, ex, row, rfl, he, hv, hn1, g1⟩
  clear h
  have hel : ex.length = n1 := he.1
  obtain ⟨a, ha⟩ : ∃ a, trL ex row = a := ⟨_, rfl⟩
  have HA := Lib.hid ha
  clear ha
  go_wp2_with fail
  refine (iTruth_eq HA.out _ he.fresh hv.fresh).mono ?_
  rintro e w2 ⟨rfl, g2⟩
  have G2 := g1.trans g2
  go_wp2_with fail
  refine (sTruth_eq HA.out _ (he.fresh.grow g2) (hv.fresh.grow g2)).mono ?_
  rintro e w3 ⟨rfl, g3⟩
  have G3 := G2.trans g3
  have he3 := he.fresh.grow (g2.trans g3)
  have hv3 := hv.fresh.grow (g2.trans g3)
  by_cases ha0 : a < 0
  · go_wp2_with fail
    refine (sTruth_eq HA.out _ he3 hv3).mono ?_
    rintro e w4 ⟨rfl, g4⟩
    go_wp2
    go_ret
    exact ⟨rfl, G3.trans g4⟩
  by_cases hn : (24 : Int) < 2 * (n1 : Int) + 2
  · go_wp2_with fail
    refine (sTruth_eq HA.out _ he3 hv3).mono ?_
    rintro e w4 ⟨rfl, g4⟩
    go_wp2
    go_ret
    exact ⟨rfl, G3.trans g4⟩
  have hl2 : 2 * ex.length ≤ 22 := by omega
  have HX : Hid (trL ((ex ++ ex) ++ [tk 5]) row = a) := Lib.hid (by rw [tr_and_self (by rw [HA.out]; omega) hl2]; exact HA.out)
  obtain ⟨y, hy⟩ : ∃ y, trL ((ex ++ ex) ++ [tk 7, tk 6]) row = y := ⟨_, rfl⟩
  have hy1 : 1 ≤ y := by rw [← hy]; exact tr_or_not (by rw [HA.out]; omega) hl2
  have hy0 : (y != 0) = true := by simp only [bne_iff_ne]; omega
  have hy2 : 0 ≤ y := by omega
  have HY := Lib.hid hy
  clear hy hy1
  go_wp2_with (first
    | (at_builtin; refine wpList_appG ones_tok elem_tok rfl (.tmp 40) (.tmp 41) (by rfl) (by rfl) (OwnG.made (Nat.le_refl _)) (((Grow.refl w3).alloc _).size) (by rfl) (he3.grow ((Grow.refl w3).alloc _)) (conv_plain plain_tok) (q := n1) (by omega) (by unfold maxLen; omega) (by omega) (fun A5 c5 w5 ap5 => ?_))
    | (at_builtin; refine wpList_appG ones_tok elem_tok rfl (.tmp 42) (.tmp 43) (by rfl) (by rfl) (ap5.own) ((ap5.grow ((Grow.refl w3).alloc _) (Nat.le_refl _)).size) (by rfl) (he3.grow (ap5.grow ((Grow.refl w3).alloc _) (Nat.le_refl _))) (conv_plain plain_tok) (q := n1 + n1) rfl (by unfold maxLen; omega) (by omega) (fun A6 c6 w6 ap6 => ?_))
    | (at_builtin; refine wpList_appG ones_tok elem_tok rfl (.tmp 45) (.tmp 46) (by rfl) (by rfl) (OwnG.made (B := w6.heap.size) (Nat.le_refl _)) (((Grow.refl w6).alloc _).size) (by rfl) ((ap6.own.grow ((Grow.refl w6).alloc _)).isSl) (conv_plain plain_tok) (q := n1 + n1) (by omega) (by unfold maxLen; omega) (by omega) (fun A7 c7 w7 ap7 => ?_))
    | (at_builtin; refine wpList_appG ones_tok elem_tok rfl (.tmp 47) (.tmp 49) (by rfl) (by rfl) (ap7.own.grow ((Grow.refl w7).alloc _)) (((ap7.grow ((Grow.refl w6).alloc _) (Nat.le_refl _)).alloc _).size) (by rfl) (isSl_one (x := tk 5) (by decide) (new_block _ _) ⟨rfl, Nat.zero_le _⟩) (conv_plain plain_tok) (q := n1 + n1 + 1) rfl (by unfold maxLen; omega) (by omega) (fun A8 c8 w8 ap8 => ?_)))
  have G36 : Grow w3 w6 := (ap6.grow (ap5.grow ((Grow.refl w3).alloc _) (Nat.le_refl _)) (Nat.le_refl _))
  have G68 : Grow w6 w8 := (ap8.grow ((ap7.grow ((Grow.refl w6).alloc _) (Nat.le_refl _)).alloc _) (Nat.le_refl _))
  have E6 := ap6.own.grow G68
  have E8 := ap8.own.isSl.fresh
  rw [List.nil_append] at E6
  rw [List.nil_append, List.nil_append] at E8
  have hv8 := hv3.grow (G36.trans G68)
  have G8 := G3.trans (G36.trans G68)
  refine (iTruth_eq HX.out _ E8 hv8).mono ?_
  rintro e w9 ⟨rfl, g9⟩
  have E9 := E6.grow g9
  go_wp2_with (first
    | (at_builtin; refine wpList_appG ones_tok elem_tok rfl (.tmp 53) (.tmp 54) (by rfl) (by rfl) (OwnG.made (B := w9.heap.size) (Nat.le_refl _)) (((Grow.refl w9).alloc _).size) (by rfl) ((E9.grow ((Grow.refl w9).alloc _)).isSl) (conv_plain plain_tok) (q := n1 + n1) (by omega) (by unfold maxLen; omega) (by omega) (fun A10 c10 w10 ap10 => ?_))
    | (at_builtin; refine wpList_appG ones_tok elem_tok rfl (.tmp 55) (.tmp 58) (by rfl) (by rfl) (ap10.own.grow ((Grow.refl w10).alloc _)) (((ap10.grow ((Grow.refl w9).alloc _) (Nat.le_refl _)).alloc _).size) (by rfl) (isSl_lit (S := fun _ => True) (xs := [tk 7, tk 6]) (m := 2) (new_block _ _) (flat_two (cs := [.int .i64 7, .int .i64 0, .int .i64 0, .int .i64 0, .string ⟨#[]⟩]) ⟨rfl, Nat.zero_le _⟩ ⟨rfl, Nat.zero_le _⟩) rfl (by decide) trivial) (conv_plain plain_tok) (q := n1 + n1 + 2) rfl (by unfold maxLen; omega) (by omega) (fun A11 c11 w11 ap11 => ?_)))
  have G911 : Grow w9 w11 := ap11.grow ((ap10.grow ((Grow.refl w9).alloc _) (Nat.le_refl _)).alloc _) (Nat.le_refl _)
  have E11 := ap11.own.isSl.fresh
  rw [List.nil_append] at E11
  refine (iTruth_eq HY.out _ E11 (hv8.grow (g9.trans G911))).mono ?_
  rintro e w12 ⟨rfl, g12⟩
  go_wp2
  go_ret
  exact ⟨rfl, G8.trans (g9.trans (G911.trans g12))⟩
end Go.Proofs.Ytonijaniaimgaaa
namespace Go.Proofs.Ytonijaniaimgaaa.FnEither
open Go.ChangeShapes Go.WideShapes Go.ChangeAt Go.RowKit
open Go.ChangeMaps (open_string shut_string)
theorem own : ownKnob Try.prog.godebug = none := by kernel_rfl
theorem laidOut : laidOutB Try.prog = true := by kernel_rfl
set_option maxRecDepth 100000 in
theorem lifted (os : Os) (started : os.Started) (H : Type) (enc : TypeId × Value → H) :
    ReturnsInHanded {} Try.checked os 3 .any (Rows.fnEitherSpec.pre6 enc Try.prog Try.f3 Rows.fnEitherRow.domain false) (Rows.fnEitherSpec.post enc Try.prog Try.f3 false true false false) := by
  refine returnsInHanded_of_change_sized (C := Try.checked) own started (by kernel_rfl) Try.func3
    (ChangeSpec.witness6 (enc := enc) (C := Try.checked) false ⟨#[], #[.slice none 0 0], []⟩ 8 (by kernel_rfl) (by kernel_rfl) (by kernel_rfl) (by kernel_rfl)) ?_
  intro W base args ds gs before hval0 hW hcnd hsz0 _
  have hval : ∀ (j : Nat) t v, Try.f3.params[j]? = some t → args[j]? = some v → Value.okWide Try.prog W .any base t v := hval0
  have hW' := hW
  obtain ⟨p, q, hA0, hV, rfl, hfz, hnd⟩ := hW
  have hA : DataW.TrodAll enc Try.prog W 0 (fun _ => true) true Try.f3.params.toList args.toList ds p := hA0
  rw [Try.params3] at hA hval
  obtain ⟨v0, vs0, d0, ds0, p0, q0, hargs, rfl, rfl, h0, r0⟩ := trodAll_cons hA
  obtain ⟨rfl, rfl, rfl⟩ := trodAll_nil r0
  obtain rfl : args = #[v0] := by cases args; simp_all
  obtain ⟨rfl, rfl⟩ := trodVars_none hV
  have k0 := h0
  have lt0 : ∀ x ∈ p0, x.block < W.heap.size := by obtain ⟨m, hm⟩ := k0; exact DataW.trod_lt m _ _ _ hm
  obtain ⟨A0, len0, cap0, rfl⟩ := okWide_slice Try.underlying22 (hval 0 22 v0 rfl rfl)
  obtain ⟨xs0, e0⟩ := opens_bytes.of h0
  replace e0 := isSl_of e0
  clear hA0 hval0 hsz0
  refine (law_FnEither A0 len0 cap0 xs0 e0 W rfl).mono fun e W' ⟨he, bel⟩ => ?_
  subst he
  exact ⟨_, rfl, _, _, _, [], _, [], hW', trodAll_mk1 (shut_bool Try.underlying4 _), (trodAll_cons_mk (Below.trod laidOut (by kernel_rfl) (of_decide_eq_true (by kernel_rfl)) k0 bel lt0) trodAll_mk0), rfl, Below.frame bel _, fun h => by cases h⟩
theorem over : Rows.fnEitherRow.holds Try.pinned (OpenSpec.ofChange Rows.fnEitherSpec) :=
  OpenClaim.holds_of_wide 3 Try.f3 rfl rfl rfl rfl rfl rfl rfl ⟨rfl, rfl, rfl, rfl, rfl⟩ rfl rfl rfl rfl rfl (by kernel_rfl) Try.func3 (by kernel_rfl)
    (of_decide_eq_true (by kernel_rfl)) (by unfold Func.isWrapper; first | (rw [if_pos (by decide +kernel)]; kernel_rfl) | (rw [if_neg (by decide +kernel)]; exact ⟨rfl, rfl⟩))
    (fun os started H enc _ => lifted os started H enc)
theorem proved : Rows.FnEitherSaid := over
#print axioms proved
end Go.Proofs.Ytonijaniaimgaaa.FnEither
namespace Go.Proofs.Ytonijaniaimgaaa
/-- The row, for the claim. -/
theorem fnEither_holds : Rows.FnEitherSaid := FnEither.proved
end Go.Proofs.Ytonijaniaimgaaa
