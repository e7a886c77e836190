import Derived.Test.YtdgmoplfiodahaaGreatDoorOwn
/-! What is drawn of expressions and rows of values. -/
namespace Go.Proofs.YtdgmoplfiodahaaGreatDoor
open Go.RowKit
set_option linter.unusedVariables false
set_option linter.unusedSimpArgs false
/-- A slice of one's own is handed back, of which P is true; the reader has gone on. -/
def RdSl {α : Type} (k : Kd α) (E : TypeId) (g : Nat) (w : World) (P : List α → Prop) (e : Ending) (w' : World) : Prop :=
  ∃ (A : Option Addr) (n c : Nat) (xs : List α), e = .returned (.slice A n c) ∧ OwnG k E w.heap.size w' A n c xs ∧ P xs ∧ GrowX g w w' ∧ IsRd w' g
theorem pow_one_le (d : Nat) : 1 + 1 ≤ 2 ^ (d + 1 + 1) := by rw [Nat.pow_succ, Nat.pow_succ]; have := Nat.one_le_two_pow (n := d); omega
theorem l2Col_any (n : Int) (w : World) : Calls Tryz.prog 39 #[.int .i64 n] w (Ret w (.agg #[.int .i64 1, .int .i64 n, .int .i64 0, .int .i64 0, .string ⟨#[]⟩])) := by
  go_enter Tryz.func39, Tryz.ntmps39
  go_wp2
  refine bodyPost_ret (v := .agg #[.int .i64 1, .int .i64 n, .int .i64 0, .int .i64 0, .string ⟨#[]⟩]) (by simp [results, Tryz.results39, go_sem]) rfl ⟨rfl, (Grow.refl _).alloc _⟩
theorem l2Const_any (k n : Int) (s : ByteArray) (w : World) : Calls Tryz.prog 41 #[.agg #[.int .i64 k, .int .i64 n, .string s]] w (Ret w (.agg #[.int .i64 2, .int .i64 0, .int .i64 k, .int .i64 n, .string s])) := by
  go_enter Tryz.func41, Tryz.ntmps41
  go_wp2
  refine bodyPost_ret (v := .agg #[.int .i64 2, .int .i64 0, .int .i64 k, .int .i64 n, .string s]) (by simp [results, Tryz.results41, go_sem]) rfl ⟨rfl, (by repeat (with_reducible first | exact Grow.refl _ | assumption | refine Grow.drew ?_ | refine Grow.alloc ?_ _ | refine Grow.set ?_ (by first | exact Nat.le_refl _ | (simp; done) | (simp; omega) | omega) _ | exact And.left (by assumption) | refine Grow.trans ?_ (by assumption)))⟩
set_option maxHeartbeats 4000000 in
theorem expr_any (g : Nat) : ∀ (d : Nat) (z : Int) (hz : z = (d : Int)) (w : World), IsRd w g → d ≤ 3 →
    Calls Tryz.prog 23 #[.pointer (some ⟨g, 0, none⟩), .int .i64 3, .int .i64 z] w (RdSl Kd.tok 38 g w (fun xs => xs.length + 1 ≤ 2 ^ (d + 1)))
  | 0, z, hz, w, h, hd => by
    obtain rfl : z = 0 := hz
    go_enter Tryz.func23, Tryz.ntmps23
    go_wp2_with fail
    refine (once_any g 3 _ h (by decide) (by decide)).mono ?_
    rintro e w2 ⟨x, rfl, hG2, hR2⟩
    cases x
    · go_wp2_with fail
      refine (below_any g 3 _ hR2 (by decide)).mono ?_
      rintro e w3 ⟨y, rfl, hy, hG3, hR3⟩
      go_wp2_with fail
      refine (l2Col_any _ _).mono ?_
      rintro e w4 ⟨rfl, g4⟩
      go_wp2
      go_ret
      have G4 : GrowX g w w4 := (GrowX.refl g w).trans (hG2.trans (hG3.trans (GrowX.of g4)))
      exact ⟨_, 1, 1, [⟨1, y, ⟨0, 0, ⟨#[]⟩⟩⟩], rfl, OwnG.lit (new_block _ _) G4.size (flat_one ⟨rfl, Nat.zero_le _⟩) rfl (by decide), by simp, G4.alloc _, (hR3.of_grow g4).of_grow ((Grow.refl _).alloc _)⟩
    · go_wp2_with fail
      refine (val_any g _ hR2).mono ?_
      rintro e w3 ⟨v, rfl, hv, hv2, hG3, hR3⟩
      go_wp2_with fail
      refine (l2Const_any _ _ _ _).mono ?_
      rintro e w4 ⟨rfl, g4⟩
      go_wp2
      go_ret
      have G4 : GrowX g w w4 := (GrowX.refl g w).trans (hG2.trans (hG3.trans (GrowX.of g4)))
      exact ⟨_, 1, 1, [⟨2, 0, v⟩], rfl, OwnG.lit (new_block _ _) G4.size (flat_one ⟨rfl, by show v.s.size ≤ maxLen; unfold maxLen; omega⟩) rfl (by decide), by simp, G4.alloc _, (hR3.of_grow g4).of_grow ((Grow.refl _).alloc _)⟩
  | d + 1, z, hz, w, h, hd => by
    have hz0 : (z == 0) = false := by simp; omega
    have hw1 : IntKind.i64.wrap (z - 1) = z - 1 := IntWalk.i64_in _ (by omega)
    have HZ := Lib.hid (show z - 1 = (d : Int) by omega)
    have hgl := h.lt
    have HP := Lib.hid (show 2 ^ (d + 1) ≤ 16 from Nat.le_trans (Nat.pow_le_pow_right (by decide) (by omega : d + 1 ≤ 4)) (by decide))
    have HPS := Lib.hid (show 2 ^ (d + 1 + 1) = 2 * 2 ^ (d + 1) by rw [Nat.pow_succ]; omega)
    clear hz
    go_enter Tryz.func23, Tryz.ntmps23
    go_wp2_with fail
    refine (once_any g 4 _ h (by decide) (by decide)).mono ?_
    rintro e w1 ⟨x, rfl, hG1, hR1⟩
    cases x
    · go_wp2_with fail
      refine (below_any g 8 _ hR1 (by decide)).mono ?_
      rintro e w2 ⟨y, rfl, hy, hG2, hR2⟩
      have hy0 : 0 ≤ y ∧ y < 8 := by unfold RdBelow at hy; omega
      clear hy
      obtain ⟨y0, y1⟩ := hy0
      go_wp2_with fail
      refine (expr_any g d _ HZ.out _ hR2 (by omega)).mono ?_
      rintro e w3 ⟨A3, n3, c3, xs3, rfl, own3, hx3, hG3, hR3⟩
      have l3 := own3.len
      have G3 : GrowX g w w3 := hG1.trans (hG2.trans hG3)
      have hB3 : g < w2.heap.size := hR2.lt
      have hs3 : w2.heap.size ≤ w3.heap.size := hG3.size
      have hws : w.heap.size ≤ w2.heap.size := (hG1.trans hG2).size
      have hn3 : n3 ≤ 15 := by have := HP.out; omega
      have hcase : y = 4 ∨ y = 5 ∨ ((3 + y != 7) = true ∧ (3 + y != 8) = true) := by simp only [bne_iff_ne]; omega
      rcases hcase with rfl | rfl | ⟨k7, k8⟩
      · go_wp2_with (at_builtin; refine wpList_appG ones_tok elem_tok rfl (.tmp 52) (.tmp 55) (by rfl) (by rfl) (own3.grow ((Grow.refl w3).alloc _)) (Nat.le_trans hs3 ((Grow.refl w3).alloc _).size) (by rfl) (isSl_one (x := ⟨7, 0, ⟨0, 0, ⟨#[]⟩⟩⟩) (by decide) (new_block _ _) ⟨rfl, Nat.zero_le _⟩) (conv_plain plain_tok) (q := n3 + 1) rfl (by unfold maxLen; omega) (by omega) (fun A6 c6 w6 ap6 => ?_))
        go_ret
        exact ⟨A6, _, c6, _, rfl, ap6.own.low hws, by simp; have := HPS.out; omega, ap6.growX (G3.alloc _) hws, ap6.rd (hR3.of_grow ((Grow.refl _).alloc _)) hB3⟩
      · go_wp2_with (at_builtin; refine wpList_appG ones_tok elem_tok rfl (.tmp 52) (.tmp 55) (by rfl) (by rfl) (own3.grow ((Grow.refl w3).alloc _)) (Nat.le_trans hs3 ((Grow.refl w3).alloc _).size) (by rfl) (isSl_one (x := ⟨8, 0, ⟨0, 0, ⟨#[]⟩⟩⟩) (by decide) (new_block _ _) ⟨rfl, Nat.zero_le _⟩) (conv_plain plain_tok) (q := n3 + 1) rfl (by unfold maxLen; omega) (by omega) (fun A6 c6 w6 ap6 => ?_))
        go_ret
        exact ⟨A6, _, c6, _, rfl, ap6.own.low hws, by simp; have := HPS.out; omega, ap6.growX (G3.alloc _) hws, ap6.rd (hR3.of_grow ((Grow.refl _).alloc _)) hB3⟩
      · go_wp2_with fail
        refine (expr_any g d _ HZ.out _ hR3 (by omega)).mono ?_
        rintro e w4 ⟨A4, n4, c4, xs4, rfl, own4, hx4, hG4, hR4⟩
        have l4 := own4.len
        have hn4 : n4 ≤ 15 := by have := HP.out; omega
        have own3' := own3.growX hG4 hB3
        have hs4 : w2.heap.size ≤ w4.heap.size := Nat.le_trans hs3 hG4.size
        go_wp2_with (first
          | (at_builtin; refine wpList_appG ones_tok elem_tok rfl (.tmp 45) (.tmp 50) (by rfl) (by rfl) own3' hs4 (by rfl) own4.isSl (conv_plain plain_tok) (q := n3 + n4) rfl (by unfold maxLen; omega) (by omega) (fun A5 c5 w5 ap5 => ?_))
          | (at_builtin; refine wpList_appG ones_tok elem_tok rfl (.tmp 52) (.tmp 55) (by rfl) (by rfl) (ap5.own.grow ((Grow.refl w5).alloc _)) (Nat.le_trans (Nat.le_trans hs4 ap5.size) ((Grow.refl w5).alloc _).size) (by rfl) (isSl_one (x := ⟨3 + y, 0, ⟨0, 0, ⟨#[]⟩⟩⟩) (by decide) (new_block _ _) ⟨rfl, Nat.zero_le _⟩) (conv_plain plain_tok) (q := n3 + n4 + 1) rfl (by unfold maxLen; omega) (by omega) (fun A6 c6 w6 ap6 => ?_)))
        have G5 : GrowX g w w5 := ap5.growX (G3.trans hG4) hws
        have hR5 := ap5.rd hR4 hB3
        go_ret
        exact ⟨A6, _, c6, _, rfl, ap6.own.low hws, by simp; have := HPS.out; omega, ap6.growX (G5.alloc _) hws, ap6.rd (hR5.of_grow ((Grow.refl _).alloc _)) hB3⟩
    · go_wp2_with fail
      refine (once_any g 3 _ hR1 (by decide) (by decide)).mono ?_
      rintro e w2 ⟨x, rfl, hG2, hR2⟩
      cases x
      · go_wp2_with fail
        refine (below_any g 3 _ hR2 (by decide)).mono ?_
        rintro e w3 ⟨y, rfl, hy, hG3, hR3⟩
        go_wp2_with fail
        refine (l2Col_any _ _).mono ?_
        rintro e w4 ⟨rfl, g4⟩
        go_wp2
        go_ret
        have G4 : GrowX g w w4 := hG1.trans (hG2.trans (hG3.trans (GrowX.of g4)))
        exact ⟨_, 1, 1, [⟨1, y, ⟨0, 0, ⟨#[]⟩⟩⟩], rfl, OwnG.lit (new_block _ _) G4.size (flat_one ⟨rfl, Nat.zero_le _⟩) rfl (by decide), pow_one_le _, G4.alloc _, (hR3.of_grow g4).of_grow ((Grow.refl _).alloc _)⟩
      · go_wp2_with fail
        refine (val_any g _ hR2).mono ?_
        rintro e w3 ⟨v, rfl, hv, hv2, hG3, hR3⟩
        go_wp2_with fail
        refine (l2Const_any _ _ _ _).mono ?_
        rintro e w4 ⟨rfl, g4⟩
        go_wp2
        go_ret
        have G4 : GrowX g w w4 := hG1.trans (hG2.trans (hG3.trans (GrowX.of g4)))
        exact ⟨_, 1, 1, [⟨2, 0, v⟩], rfl, OwnG.lit (new_block _ _) G4.size (flat_one ⟨rfl, by show v.s.size ≤ maxLen; unfold maxLen; omega⟩) rfl (by decide), pow_one_le _, G4.alloc _, (hR3.of_grow g4).of_grow ((Grow.refl _).alloc _)⟩
end Go.Proofs.YtdgmoplfiodahaaGreatDoor
