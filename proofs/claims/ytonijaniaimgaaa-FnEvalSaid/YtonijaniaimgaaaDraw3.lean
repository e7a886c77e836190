import Derived.Test.YtonijaniaimgaaaDraw2
/-! What is drawn for ExprOk and ExprText. -/
namespace Go.Proofs.Ytonijaniaimgaaa
open Go.RowKit
set_option linter.unusedVariables false
set_option linter.unusedSimpArgs false
theorem drawExprOk_any {A : Option Addr} {len cap : Nat} {xs : List Int} (w : World) (h : IsSl Kd.byte w (· < w.heap.size) A len cap xs) :
    Calls Try.prog 17 #[.slice A len cap] w (fun e w' => ∃ (B : Option Addr) (n c : Nat) (ys : List Tok) (m : Int), e = .returned (.tuple #[.slice B n c, .int .i64 m]) ∧ IsSl Kd.tok w' (Fresh w.heap.size w') B n c ys ∧ Grow w w') := by
  go_enter Try.func17, Try.ntmps17
  go_wp2_with fail
  refine (l1Open_any w h).mono ?_
  rintro e w1 ⟨g, rfl, hg, hG1, hR1⟩
  have hgl := hR1.lt
  have hws := hG1.size
  go_wp2_with fail
  refine (expr_any g 3 3 rfl _ hR1 (by decide)).mono ?_
  rintro e w2 ⟨A2, n2, c2, xs2, rfl, own2, hx2, hG2, hR2⟩
  have l2 := own2.len
  have hn2 : n2 ≤ 15 := by have h : xs2.length + 1 ≤ 16 := hx2; omega
  go_wp2_with fail
  refine (once_any g 4 _ hR2 (by decide) (by decide)).mono ?_
  rintro e w3 ⟨x, rfl, hG3, hR3⟩
  cases x
  · go_wp2_with fail
    refine (off_any g _ _ _ hR3 (by decide) (by decide)).mono ?_
    rintro e w4 ⟨m, rfl, _, hG4, hR4⟩
    go_wp2
    go_ret2
    exact ⟨A2, n2, c2, xs2, m, rfl, ((own2.growX (hG3.trans hG4) hgl).low hws).isSl, (hG2.trans (hG3.trans hG4)).grow hG1 hg⟩
  · go_wp2_with fail
    refine (off_any g _ _ _ hR3 (by decide) (by decide)).mono ?_
    rintro e w4 ⟨m, rfl, _, hG4, hR4⟩
    have own4 := own2.growX (hG3.trans hG4) hgl
    have hs4 : w1.heap.size ≤ w4.heap.size := (hG2.trans (hG3.trans hG4)).size
    have hG24 := hG2.trans (hG3.trans hG4)
    go_wp2_with (first
      | (at_builtin; refine wpList_appG ones_tok elem_tok rfl (.tmp 12) (.tmp 16) (by rfl) (by rfl) (own4.grow ((Grow.refl w4).alloc _)) (Nat.le_trans hs4 ((Grow.refl w4).alloc _).size) (by rfl) (isSl_one (x := ⟨m, 0, ⟨0, 0, ⟨#[]⟩⟩⟩) (by decide) (new_block _ _) ⟨rfl, Nat.zero_le _⟩) (conv_plain plain_tok) (q := n2 + 1) rfl (by unfold maxLen; omega) (by omega) (fun A6 c6 w6 ap6 => ?_))
      | fail)
    have hR6 := ap6.rd (hR4.of_grow ((Grow.refl _).alloc _)) hgl
    have G6 : GrowX g w1 w6 := ap6.growX (hG24.alloc _) (Nat.le_refl _)
    refine (off_any g _ _ _ hR6 (by decide) (by decide)).mono ?_
    rintro e w7 ⟨m7, rfl, _, hG7, hR7⟩
    go_wp2
    go_ret2
    exact ⟨A6, _, c6, _, m7, rfl, ((ap6.own.growX hG7 hgl).low hws).isSl, (G6.trans hG7).grow hG1 hg⟩
theorem drawExprText_any {A : Option Addr} {len cap : Nat} {xs : List Int} (w : World) (h : IsSl Kd.byte w (· < w.heap.size) A len cap xs) :
    Calls Try.prog 18 #[.slice A len cap] w (fun e w' => ∃ (B : Option Addr) (n c : Nat) (ys : List Tok), e = .returned (.slice B n c) ∧ IsSl Kd.tok w' (Fresh w.heap.size w') B n c ys ∧ n ≤ 16 ∧ Grow w w') := by
  go_enter Try.func18, Try.ntmps18
  go_wp2_with fail
  refine (l1Open_any w h).mono ?_
  rintro e w1 ⟨g, rfl, hg, hG1, hR1⟩
  have hgl := hR1.lt
  have hws := hG1.size
  go_wp2_with fail
  refine (expr_any g 3 3 rfl _ hR1 (by decide)).mono ?_
  rintro e w2 ⟨A2, n2, c2, xs2, rfl, own2, hx2, hG2, hR2⟩
  have l2 := own2.len
  have hn2 : n2 ≤ 15 := by have h : xs2.length + 1 ≤ 16 := hx2; omega
  go_wp2_with fail
  refine (once_any g 12 _ hR2 (by decide) (by decide)).mono ?_
  rintro e w3 ⟨x, rfl, hG3, hR3⟩
  cases x
  · go_wp2
    go_ret
    exact ⟨A2, n2, c2, xs2, rfl, ((own2.growX hG3 hgl).low hws).isSl, by omega, (hG2.trans hG3).grow hG1 hg⟩
  · have own3 := own2.growX hG3 hgl
    have hs3 : w1.heap.size ≤ w3.heap.size := (hG2.trans hG3).size
    go_wp2_with (at_builtin; refine wpList_appG ones_tok elem_tok rfl (.tmp 11) (.tmp 13) (by rfl) (by rfl) (own3.grow ((Grow.refl w3).alloc _)) (Nat.le_trans hs3 ((Grow.refl w3).alloc _).size) (by rfl) (isSl_one (x := ⟨5, 0, ⟨0, 0, ⟨#[]⟩⟩⟩) (by decide) (new_block _ _) ⟨rfl, Nat.zero_le _⟩) (conv_plain plain_tok) (q := n2 + 1) rfl (by unfold maxLen; omega) (by omega) (fun A6 c6 w6 ap6 => ?_))
    go_ret
    exact ⟨A6, _, c6, _, rfl, (ap6.own.low hws).isSl, by omega, (ap6.growX ((hG2.trans hG3).alloc _) (Nat.le_refl _)).grow hG1 hg⟩
def told3V (v : Val) : Int := if v.kind = 0 then 2 else if v.n = 0 then 0 else 1
theorem told3_any (k n : Int) (s : ByteArray) (w : World) : Calls Try.prog 22 #[.agg #[.int .i64 k, .int .i64 n, .string s]] w (Ret w (.int .i64 (told3V ⟨k, n, s⟩))) := by
  go_enter Try.func22, Try.ntmps22
  go_wp2
  all_goals go_ret
  all_goals refine ⟨ret_int ?_, (by repeat (with_reducible first | exact Grow.refl _ | assumption | refine Grow.drew ?_ | refine Grow.alloc ?_ _ | refine Grow.set ?_ (by first | exact Nat.le_refl _ | (simp; done) | (simp; omega) | omega) _ | exact And.left (by assumption) | refine Grow.trans ?_ (by assumption)))⟩
  all_goals simp_all [told3V]
end Go.Proofs.Ytonijaniaimgaaa
