/- The law FnThree returns true for every code: of drawn values one of less, more and alike is true, and nothing is known of a null. No condition. -/
import Derived.Test.YteeenmjkfaeepaaRows
import Derived.Test.YteeenmjkfaeepaaDraw1
import Derived.Test.YteeenmjkfaeepaaOrd
import Derived.ProofKit
import Derived.OpenShut
import Derived.ShutString
import Derived.ChangeOld
import Derived.SizedLaws
namespace Go.Proofs.Yteeenmjkfaeepaa
open Go.RowKit
set_option linter.unusedVariables false
set_option linter.unusedSimpArgs false
theorem big_any {A : Option Addr} {len cap : Nat} (w : World) (hl : len ≤ maxLen) : Calls Try.prog 31 #[.slice A len cap] w (Just w (.bool (decide ((len : Int) > 1048576)))) := by
  unfold maxLen at hl
  go_enter Try.func31, Try.ntmps31
  go_wp2
  go_ret
  exact ⟨ret_bool (by simp), rfl⟩
set_option maxHeartbeats 4000000 in
theorem law_FnThree (A : Option Addr) (len cap : Nat) (xs : List Int) {W : World} (h : IsSl Kd.byte W (· < W.heap.size) A len cap xs) (w : World) (hw : w = W) :
    Calls Try.prog 13 #[.slice A len cap] w (Ret w (.bool true)) := by
  subst hw
  have hl := Nat.le_trans h.2.1 h.2.2.1
  go_enter Try.func13, Try.ntmps13
  have hcur := Grow.refl w
  go_wp2_with (first | (go_at_call 31; (with_reducible refine (big_any _ hl).mono ?_); rintro e w1 ⟨rfl, rfl⟩))
  · go_ret
    exact ⟨rfl, Grow.refl _⟩
  refine (drawEqual3_any _ h).mono ?_
  rintro e w1 ⟨⟨k, n, s⟩, ⟨l, m, t⟩, rfl, ha, hb, ha2, hb2, hg1⟩
  dsimp only
  have hg2 := hcur.trans hg1
  clear hcur
  go_wp2_with fail
  generalize hW : World.alloc (World.alloc w1 _) _ = W
  obtain ⟨hg, hs, hs', k1, k2⟩ := boxed2 hW
  clear hW
  have hcur := Grow.refl W
  obtain ⟨E, L, M, hE, hE', hL, hM, hc3⟩ := three ⟨k, n, s⟩ ⟨l, m, t⟩ ha hb
  dsimp only at hc3
  have hlen : (1048576 : Int) < (len : Int) → False := by omega
  clear hlen h
  rcases hc3 with ⟨h0, rfl, rfl, rfl⟩ | ⟨hk0, hl0, ⟨rfl, rfl, rfl, hO⟩ | ⟨rfl, rfl, rfl, hO⟩ | ⟨rfl, rfl, rfl, hO⟩⟩
  · by_cases hk : k = 0
    · subst hk
      go_wp2_with (first | (go_at_call 26; (with_reducible refine (iEqual3_any _ _ _ _ _ _ _).mono ?_); rintro e w1 ⟨rfl, hb⟩; replace hcur := hcur.trans hb; replace hc := hcur.same; clear hb) | (go_at_call 30; (with_reducible refine (iLess3_any _ _ _ _ _ _ _).mono ?_); rintro e w1 ⟨rfl, hb⟩; replace hcur := hcur.trans hb; replace hc := hcur.same; clear hb) | (go_at_call 25; (with_reducible refine (sEqual3_any _ _ _ _ _ _ _).mono ?_); rintro e w1 ⟨rfl, hb⟩; replace hcur := hcur.trans hb; replace hc := hcur.same; clear hb) | (go_at_call 29; (with_reducible refine (sLess3_any _ _ _ _ _ _ _).mono ?_); rintro e w1 ⟨rfl, hb⟩; replace hcur := hcur.trans hb; replace hc := hcur.same; clear hb) | (go_at_call 28; (with_reducible refine (iOrder_any _ _ _ _ _ _ _).mono ?_); rintro e w1 ⟨rfl, hb⟩; replace hcur := hcur.trans hb; replace hc := hcur.same; clear hb))
      go_ret
      exact ⟨rfl, hg2.trans (hg.trans hcur)⟩
    · have hl : l = 0 := by omega
      subst hl
      have hk' : (k == 0) = false := by simpa using hk
      go_wp2_with (first | (go_at_call 26; (with_reducible refine (iEqual3_any _ _ _ _ _ _ _).mono ?_); rintro e w1 ⟨rfl, hb⟩; replace hcur := hcur.trans hb; replace hc := hcur.same; clear hb) | (go_at_call 30; (with_reducible refine (iLess3_any _ _ _ _ _ _ _).mono ?_); rintro e w1 ⟨rfl, hb⟩; replace hcur := hcur.trans hb; replace hc := hcur.same; clear hb) | (go_at_call 25; (with_reducible refine (sEqual3_any _ _ _ _ _ _ _).mono ?_); rintro e w1 ⟨rfl, hb⟩; replace hcur := hcur.trans hb; replace hc := hcur.same; clear hb) | (go_at_call 29; (with_reducible refine (sLess3_any _ _ _ _ _ _ _).mono ?_); rintro e w1 ⟨rfl, hb⟩; replace hcur := hcur.trans hb; replace hc := hcur.same; clear hb) | (go_at_call 28; (with_reducible refine (iOrder_any _ _ _ _ _ _ _).mono ?_); rintro e w1 ⟨rfl, hb⟩; replace hcur := hcur.trans hb; replace hc := hcur.same; clear hb))
      go_ret
      exact ⟨rfl, hg2.trans (hg.trans hcur)⟩
  all_goals
    have hk' : (k == 0) = false := by simpa using hk0
    have hl' : (l == 0) = false := by simpa using hl0
    go_wp2_with (first | (go_at_call 26; (with_reducible refine (iEqual3_any _ _ _ _ _ _ _).mono ?_); rintro e w1 ⟨rfl, hb⟩; replace hcur := hcur.trans hb; replace hc := hcur.same; clear hb) | (go_at_call 30; (with_reducible refine (iLess3_any _ _ _ _ _ _ _).mono ?_); rintro e w1 ⟨rfl, hb⟩; replace hcur := hcur.trans hb; replace hc := hcur.same; clear hb) | (go_at_call 25; (with_reducible refine (sEqual3_any _ _ _ _ _ _ _).mono ?_); rintro e w1 ⟨rfl, hb⟩; replace hcur := hcur.trans hb; replace hc := hcur.same; clear hb) | (go_at_call 29; (with_reducible refine (sLess3_any _ _ _ _ _ _ _).mono ?_); rintro e w1 ⟨rfl, hb⟩; replace hcur := hcur.trans hb; replace hc := hcur.same; clear hb) | (go_at_call 28; (with_reducible refine (iOrder_any _ _ _ _ _ _ _).mono ?_); rintro e w1 ⟨rfl, hb⟩; replace hcur := hcur.trans hb; replace hc := hcur.same; clear hb))
    go_ret
    exact ⟨rfl, hg2.trans (hg.trans hcur)⟩
end Go.Proofs.Yteeenmjkfaeepaa
namespace Go.Proofs.Yteeenmjkfaeepaa.FnThree
open Go.ChangeShapes Go.WideShapes Go.ChangeAt Go.RowKit
open Go.ChangeMaps (open_string shut_string)
theorem own : ownKnob Try.prog.godebug = none := by kernel_rfl
theorem laidOut : laidOutB Try.prog = true := by kernel_rfl
set_option maxRecDepth 100000 in
theorem lifted (os : Os) (started : os.Started) (H : Type) (enc : TypeId × Value → H) :
    ReturnsInHanded {} Try.checked os 13 .any (Rows.fnThreeSpec.pre6 enc Try.prog Try.f13 Rows.fnThreeRow.domain false) (Rows.fnThreeSpec.post enc Try.prog Try.f13 false true false false) := by
  refine returnsInHanded_of_change_sized (C := Try.checked) own started (by kernel_rfl) Try.func13
    (ChangeSpec.witness6 (enc := enc) (C := Try.checked) false ⟨#[], #[.slice none 0 0], []⟩ 8 (by kernel_rfl) (by kernel_rfl) (by kernel_rfl) (by kernel_rfl)) ?_
  intro W base args ds gs before hval0 hW hcnd hsz0 _
  have hval : ∀ (j : Nat) t v, Try.f13.params[j]? = some t → args[j]? = some v → Value.okWide Try.prog W .any base t v := hval0
  have hW' := hW
  obtain ⟨p, q, hA0, hV, rfl, hfz, hnd⟩ := hW
  have hA : DataW.TrodAll enc Try.prog W 0 (fun _ => true) true Try.f13.params.toList args.toList ds p := hA0
  rw [Try.params13] at hA hval
  obtain ⟨v0, vs0, d0, ds0, p0, q0, hargs, rfl, rfl, h0, r0⟩ := trodAll_cons hA
  obtain ⟨rfl, rfl, rfl⟩ := trodAll_nil r0
  obtain rfl : args = #[v0] := by cases args; simp_all
  obtain ⟨rfl, rfl⟩ := trodVars_none hV
  have k0 := h0
  have lt0 : ∀ x ∈ p0, x.block < W.heap.size := by obtain ⟨m, hm⟩ := k0; exact DataW.trod_lt m _ _ _ hm
  obtain ⟨A0, len0, cap0, rfl⟩ := okWide_slice Try.underlying36 (hval 0 36 v0 rfl rfl)
  obtain ⟨xs0, e0⟩ := opens_bytes.of h0
  replace e0 := isSl_of e0
  clear hA0 hval0 hsz0
  refine (law_FnThree A0 len0 cap0 xs0 e0 W rfl).mono fun e W' ⟨he, bel⟩ => ?_
  subst he
  exact ⟨_, rfl, _, _, _, [], _, [], hW', trodAll_mk1 (shut_bool Try.underlying4 _), (trodAll_cons_mk (Below.trod laidOut (by kernel_rfl) (of_decide_eq_true (by kernel_rfl)) k0 bel lt0) trodAll_mk0), rfl, Below.frame bel _, fun h => by cases h⟩
theorem over : Rows.fnThreeRow.holds Try.pinned (OpenSpec.ofChange Rows.fnThreeSpec) :=
  OpenClaim.holds_of_wide 13 Try.f13 rfl rfl rfl rfl rfl rfl rfl ⟨rfl, rfl, rfl, rfl, rfl⟩ rfl rfl rfl rfl rfl (by kernel_rfl) Try.func13 (by kernel_rfl)
    (of_decide_eq_true (by kernel_rfl)) (by unfold Func.isWrapper; first | (rw [if_pos (by decide +kernel)]; kernel_rfl) | (rw [if_neg (by decide +kernel)]; exact ⟨rfl, rfl⟩))
    (fun os started H enc _ => lifted os started H enc)
theorem proved : Rows.FnThreeSaid := over
#print axioms proved
end Go.Proofs.Yteeenmjkfaeepaa.FnThree
namespace Go.Proofs.Yteeenmjkfaeepaa
/-- The row, for the claim. -/
theorem fnThree_holds : Rows.FnThreeSaid := FnThree.proved
end Go.Proofs.Yteeenmjkfaeepaa
