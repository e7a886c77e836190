import Derived.Test.YtdgmoplfiodahaaGreatDoorDraw2
/-! What is drawn for ExprOk and ExprText. -/
namespace Go.Proofs.YtdgmoplfiodahaaGreatDoor
open Go.RowKit
set_option linter.unusedVariables false
set_option linter.unusedSimpArgs false
theorem drawExprText_any {A : Option Addr} {len cap : Nat} {xs : List Int} (w : World) (h : IsSl Kd.byte w (· < w.heap.size) A len cap xs) :
    Calls Tryz.prog 11 #[.slice A len cap] w (fun e w' => ∃ (B : Option Addr) (n c : Nat) (ys : List Tok), e = .returned (.slice B n c) ∧ IsSl Kd.tok w' (Fresh w.heap.size w') B n c ys ∧ n ≤ 16 ∧ Grow w w') := by
  go_enter Tryz.func11, Tryz.ntmps11
  go_wp2_with fail
  refine (l1Open_any w h).mono ?_
  rintro e w1 ⟨g, rfl, hg, hG1, hR1⟩
  have hgl := hR1.lt
  have hws := hG1.size
  go_wp2_with fail
  refine (expr_any g 3 3 rfl _ hR1 (by decide)).mono ?_
  rintro e w2 ⟨A2, n2, c2, xs2, rfl, own2, hx2, hG2, hR2⟩
  have l2 := own2.len
  have hn2 : n2 ≤ 15 := by have h : xs2.length + 1 ≤ 16 := hx2; omega
  go_wp2_with fail
  refine (once_any g 12 _ hR2 (by decide) (by decide)).mono ?_
  rintro e w3 ⟨x, rfl, hG3, hR3⟩
  cases x
  · go_wp2
    go_ret
    exact ⟨A2, n2, c2, xs2, rfl, ((own2.growX hG3 hgl).low hws).isSl, by omega, (hG2.trans hG3).grow hG1 hg⟩
  · have own3 := own2.growX hG3 hgl
    have hs3 : w1.heap.size ≤ w3.heap.size := (hG2.trans hG3).size
    go_wp2_with (at_builtin; refine wpList_appG ones_tok elem_tok rfl (.tmp 11) (.tmp 13) (by rfl) (by rfl) (own3.grow ((Grow.refl w3).alloc _)) (Nat.le_trans hs3 ((Grow.refl w3).alloc _).size) (by rfl) (isSl_one (x := ⟨5, 0, ⟨0, 0, ⟨#[]⟩⟩⟩) (by decide) (new_block _ _) ⟨rfl, Nat.zero_le _⟩) (conv_plain plain_tok) (q := n2 + 1) rfl (by unfold maxLen; omega) (by omega) (fun A6 c6 w6 ap6 => ?_))
    go_ret
    exact ⟨A6, _, c6, _, rfl, (ap6.own.low hws).isSl, by omega, (ap6.growX ((hG2.trans hG3).alloc _) (Nat.le_refl _)).grow hG1 hg⟩
end Go.Proofs.YtdgmoplfiodahaaGreatDoor
