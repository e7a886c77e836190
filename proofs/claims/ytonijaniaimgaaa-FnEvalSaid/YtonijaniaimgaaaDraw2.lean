import Derived.Test.YtonijaniaimgaaaOwn
/-! What is drawn of expressions and rows of values. -/
namespace Go.Proofs.Ytonijaniaimgaaa
open Go.RowKit
set_option linter.unusedVariables false
set_option linter.unusedSimpArgs false
/-- A slice of one's own is handed back, of which P is true; the reader has gone on. -/
def RdSl {α : Type} (k : Kd α) (E : TypeId) (g : Nat) (w : World) (P : List α → Prop) (e : Ending) (w' : World) : Prop :=
  ∃ (A : Option Addr) (n c : Nat) (xs : List α), e = .returned (.slice A n c) ∧ OwnG k E w.heap.size w' A n c xs ∧ P xs ∧ GrowX g w w' ∧ IsRd w' g
theorem pow_one_le (d : Nat) : 1 + 1 ≤ 2 ^ (d + 1 + 1) := by rw [Nat.pow_succ, Nat.pow_succ]; have := Nat.one_le_two_pow (n := d); omega
theorem l2Col_any (n : Int) (w : World) : Calls Try.prog 111 #[.int .i64 n] w (Ret w (.agg #[.int .i64 1, .int .i64 n, .int .i64 0, .int .i64 0, .string ⟨#[]⟩])) := by
  go_enter Try.func111, Try.ntmps111
  go_wp2
  refine bodyPost_ret (v := .agg #[.int .i64 1, .int .i64 n, .int .i64 0, .int .i64 0, .string ⟨#[]⟩]) (by simp [results, Try.results111, go_sem]) rfl ⟨rfl, (Grow.refl _).alloc _⟩
theorem l2Const_any (k n : Int) (s : ByteArray) (w : World) : Calls Try.prog 112 #[.agg #[.int .i64 k, .int .i64 n, .string s]] w (Ret w (.agg #[.int .i64 2, .int .i64 0, .int .i64 k, .int .i64 n, .string s])) := by
  go_enter Try.func112, Try.ntmps112
  go_wp2
  refine bodyPost_ret (v := .agg #[.int .i64 2, .int .i64 0, .int .i64 k, .int .i64 n, .string s]) (by simp [results, Try.results112, go_sem]) rfl ⟨rfl, (by repeat (with_reducible first | exact Grow.refl _ | assumption | refine Grow.drew ?_ | refine Grow.alloc ?_ _ | refine Grow.set ?_ (by first | exact Nat.le_refl _ | (simp; done) | (simp; omega) | omega) _ | exact And.left (by assumption) | refine Grow.trans ?_ (by assumption)))⟩
set_option maxHeartbeats 4000000 in
theorem expr_any (g : Nat) : ∀ (d : Nat) (z : Int) (hz : z = (d : Int)) (w : World), IsRd w g → d ≤ 3 →
    Calls Try.prog 56 #[.pointer (some ⟨g, 0, none⟩), .int .i64 3, .int .i64 z] w (RdSl Kd.tok 32 g w (fun xs => xs.length + 1 ≤ 2 ^ (d + 1)))
  | 0, z, hz, w, h, hd => by
    obtain rfl : z = 0 := hz
    go_enter Try.func56, Try.ntmps56
    go_wp2_with fail
    refine (once_any g 3 _ h (by decide) (by decide)).mono ?_
    rintro e w2 ⟨x, rfl, hG2, hR2⟩
    cases x
    · go_wp2_with fail
      refine (below_any g 3 _ hR2 (by decide)).mono ?_
      rintro e w3 ⟨y, rfl, hy, hG3, hR3⟩
      go_wp2_with fail
      refine (l2Col_any _ _).mono ?_
      rintro e w4 ⟨rfl, g4⟩
      go_wp2
      go_ret
      have G4 : GrowX g w w4 := (GrowX.refl g w).trans (hG2.trans (hG3.trans (GrowX.of g4)))
      exact ⟨_, 1, 1, [⟨1, y, ⟨0, 0, ⟨#[]⟩⟩⟩], rfl, OwnG.lit (new_block _ _) G4.size (flat_one ⟨rfl, Nat.zero_le _⟩) rfl (by decide), by simp, G4.alloc _, (hR3.of_grow g4).of_grow ((Grow.refl _).alloc _)⟩
    · go_wp2_with fail
      refine (val_any g _ hR2).mono ?_
      rintro e w3 ⟨v, rfl, hv, hv2, hG3, hR3⟩
      go_wp2_with fail
      refine (l2Const_any _ _ _ _).mono ?_
      rintro e w4 ⟨rfl, g4⟩
      go_wp2
      go_ret
      have G4 : GrowX g w w4 := (GrowX.refl g w).trans (hG2.trans (hG3.trans (GrowX.of g4)))
      exact ⟨_, 1, 1, [⟨2, 0, v⟩], rfl, OwnG.lit (new_block _ _) G4.size (flat_one ⟨rfl, by show v.s.size ≤ maxLen; unfold maxLen; omega⟩) rfl (by decide), by simp, G4.alloc _, (hR3.of_grow g4).of_grow ((Grow.refl _).alloc _)⟩
  | d + 1, z, hz, w, h, hd => by
    have hz0 : (z == 0) = false := by simp; omega
    have hw1 : IntKind.i64.wrap (z - 1) = z - 1 := IntWalk.i64_in _ (by omega)
    have HZ := Lib.hid (show z - 1 = (d : Int) by omega)
    have hgl := h.lt
    have HP := Lib.hid (show 2 ^ (d + 1) ≤ 16 from Nat.le_trans (Nat.pow_le_pow_right (by decide) (by omega : d + 1 ≤ 4)) (by decide))
    have HPS := Lib.hid (show 2 ^ (d + 1 + 1) = 2 * 2 ^ (d + 1) by rw [Nat.pow_succ]; omega)
    clear hz
    go_enter Try.func56, Try.ntmps56
    go_wp2_with fail
    refine (once_any g 4 _ h (by decide) (by decide)).mono ?_
    rintro e w1 ⟨x, rfl, hG1, hR1⟩
    cases x
    · go_wp2_with fail
      refine (below_any g 8 _ hR1 (by decide)).mono ?_
      rintro e w2 ⟨y, rfl, hy, hG2, hR2⟩
      have hy0 : 0 ≤ y ∧ y < 8 := by unfold RdBelow at hy; omega
      clear hy
      obtain ⟨y0, y1⟩ := hy0
      go_wp2_with fail
      refine (expr_any g d _ HZ.out _ hR2 (by omega)).mono ?_
      rintro e w3 ⟨A3, n3, c3, xs3, rfl, own3, hx3, hG3, hR3⟩
      have l3 := own3.len
      have G3 : GrowX g w w3 := hG1.trans (hG2.trans hG3)
      have hB3 : g < w2.heap.size := hR2.lt
      have hs3 : w2.heap.size ≤ w3.heap.size := hG3.size
      have hws : w.heap.size ≤ w2.heap.size := (hG1.trans hG2).size
      have hn3 : n3 ≤ 15 := by have := HP.out; omega
      have hcase : y = 4 ∨ y = 5 ∨ ((3 + y != 7) = true ∧ (3 + y != 8) = true) := by simp only [bne_iff_ne]; omega
      rcases hcase with rfl | rfl | ⟨k7, k8⟩
      · go_wp2_with (at_builtin; refine wpList_appG ones_tok elem_tok rfl (.tmp 52) (.tmp 55) (by rfl) (by rfl) (own3.grow ((Grow.refl w3).alloc _)) (Nat.le_trans hs3 ((Grow.refl w3).alloc _).size) (by rfl) (isSl_one (x := ⟨7, 0, ⟨0, 0, ⟨#[]⟩⟩⟩) (by decide) (new_block _ _) ⟨rfl, Nat.zero_le _⟩) (conv_plain plain_tok) (q := n3 + 1) rfl (by unfold maxLen; omega) (by omega) (fun A6 c6 w6 ap6 => ?_))
        go_ret
        exact ⟨A6, _, c6, _, rfl, ap6.own.low hws, by simp; have := HPS.out; omega, ap6.growX (G3.alloc _) hws, ap6.rd (hR3.of_grow ((Grow.refl _).alloc _)) hB3⟩
      · go_wp2_with (at_builtin; refine wpList_appG ones_tok elem_tok rfl (.tmp 52) (.tmp 55) (by rfl) (by rfl) (own3.grow ((Grow.refl w3).alloc _)) (Nat.le_trans hs3 ((Grow.refl w3).alloc _).size) (by rfl) (isSl_one (x := ⟨8, 0, ⟨0, 0, ⟨#[]⟩⟩⟩) (by decide) (new_block _ _) ⟨rfl, Nat.zero_le _⟩) (conv_plain plain_tok) (q := n3 + 1) rfl (by unfold maxLen; omega) (by omega) (fun A6 c6 w6 ap6 => ?_))
        go_ret
        exact ⟨A6, _, c6, _, rfl, ap6.own.low hws, by simp; have := HPS.out; omega, ap6.growX (G3.alloc _) hws, ap6.rd (hR3.of_grow ((Grow.refl _).alloc _)) hB3⟩
      · go_wp2_with fail
        refine (expr_any g d _ HZ.out _ hR3 (by omega)).mono ?_
        rintro e w4 ⟨A4, n4, c4, xs4, rfl, own4, hx4, hG4, hR4⟩
        have l4 := own4.len
        have hn4 : n4 ≤ 15 := by have := HP.out; omega
        have own3' := own3.growX hG4 hB3
        have hs4 : w2.heap.size ≤ w4.heap.size := Nat.le_trans hs3 hG4.size
        go_wp2_with (first
          | (at_builtin; refine wpList_appG ones_tok elem_tok rfl (.tmp 45) (.tmp 50) (by rfl) (by rfl) own3' hs4 (by rfl) own4.isSl (conv_plain plain_tok) (q := n3 + n4) rfl (by unfold maxLen; omega) (by omega) (fun A5 c5 w5 ap5 => ?_))
          | (at_builtin; refine wpList_appG ones_tok elem_tok rfl (.tmp 52) (.tmp 55) (by rfl) (by rfl) (ap5.own.grow ((Grow.refl w5).alloc _)) (Nat.le_trans (Nat.le_trans hs4 ap5.size) ((Grow.refl w5).alloc _).size) (by rfl) (isSl_one (x := ⟨3 + y, 0, ⟨0, 0, ⟨#[]⟩⟩⟩) (by decide) (new_block _ _) ⟨rfl, Nat.zero_le _⟩) (conv_plain plain_tok) (q := n3 + n4 + 1) rfl (by unfold maxLen; omega) (by omega) (fun A6 c6 w6 ap6 => ?_)))
        have G5 : GrowX g w w5 := ap5.growX (G3.trans hG4) hws
        have hR5 := ap5.rd hR4 hB3
        go_ret
        exact ⟨A6, _, c6, _, rfl, ap6.own.low hws, by simp; have := HPS.out; omega, ap6.growX (G5.alloc _) hws, ap6.rd (hR5.of_grow ((Grow.refl _).alloc _)) hB3⟩
    · go_wp2_with fail
      refine (once_any g 3 _ hR1 (by decide) (by decide)).mono ?_
      rintro e w2 ⟨x, rfl, hG2, hR2⟩
      cases x
      · go_wp2_with fail
        refine (below_any g 3 _ hR2 (by decide)).mono ?_
        rintro e w3 ⟨y, rfl, hy, hG3, hR3⟩
        go_wp2_with fail
        refine (l2Col_any _ _).mono ?_
        rintro e w4 ⟨rfl, g4⟩
        go_wp2
        go_ret
        have G4 : GrowX g w w4 := hG1.trans (hG2.trans (hG3.trans (GrowX.of g4)))
        exact ⟨_, 1, 1, [⟨1, y, ⟨0, 0, ⟨#[]⟩⟩⟩], rfl, OwnG.lit (new_block _ _) G4.size (flat_one ⟨rfl, Nat.zero_le _⟩) rfl (by decide), pow_one_le _, G4.alloc _, (hR3.of_grow g4).of_grow ((Grow.refl _).alloc _)⟩
      · go_wp2_with fail
        refine (val_any g _ hR2).mono ?_
        rintro e w3 ⟨v, rfl, hv, hv2, hG3, hR3⟩
        go_wp2_with fail
        refine (l2Const_any _ _ _ _).mono ?_
        rintro e w4 ⟨rfl, g4⟩
        go_wp2
        go_ret
        have G4 : GrowX g w w4 := hG1.trans (hG2.trans (hG3.trans (GrowX.of g4)))
        exact ⟨_, 1, 1, [⟨2, 0, v⟩], rfl, OwnG.lit (new_block _ _) G4.size (flat_one ⟨rfl, by show v.s.size ≤ maxLen; unfold maxLen; omega⟩) rfl (by decide), pow_one_le _, G4.alloc _, (hR3.of_grow g4).of_grow ((Grow.refl _).alloc _)⟩
theorem vals_any (g n : Nat) (hn : n ≤ 16) (z : Int) (hz : z = (n : Int)) (w : World) (h : IsRd w g) :
    Calls Try.prog 59 #[.pointer (some ⟨g, 0, none⟩), .int .i64 z] w (RdSl Kd.val 30 g w (fun xs => xs.length = n ∧ ∀ v ∈ xs, okB v = true)) := by
  subst hz
  have hgl := h.lt
  go_enter Try.func59, Try.ntmps59
  go_wp2
  go_loopw [5, 6] (fun sv i wr => ∃ (k c : Nat) (P : Option Addr) (xs : List Val), k ≤ n ∧ i = .int .i64 k ∧ sv = .slice P k c ∧ OwnG Kd.val 30 w.heap.size wr P k c xs ∧ (∀ v ∈ xs, okB v = true) ∧ GrowX g w wr ∧ IsRd wr g) (fun _ i _ => n - (intOf i).toNat)
  case atStart => exact ⟨0, 0, _, [], Nat.zero_le _, rfl, rfl, OwnG.made (Nat.le_refl _), by simp, (GrowX.refl g w).alloc _, h.of_grow ((Grow.refl _).alloc _)⟩
  case round =>
    obtain ⟨k, c, P, xs, hk, rfl, rfl, own, hok, hG, hR⟩ := hrel
    have hxl := own.len
    by_cases hlt : k < n
    · have hlt' : (k : Int) < (n : Int) := Int.ofNat_lt.mpr hlt
      go_wp2_with fail
      refine (val_any g _ hR).mono ?_
      rintro e w1 ⟨v, rfl, hv, hv2, hG1, hR1⟩
      have own1 := (own.growX hG1 hgl).grow ((Grow.refl w1).alloc (.cells #[.int .i64 v.kind, .int .i64 v.n, .string v.s] 30))
      have hs1 : w.heap.size ≤ (w1.alloc (.cells #[.int .i64 v.kind, .int .i64 v.n, .string v.s] 30)).heap.size := ((hG.trans hG1).alloc _).size
      go_wp2_with (at_builtin; refine wpList_appG ones_val elem_val rfl (.tmp 13) (.tmp 16) (by rfl) (by rfl) own1 hs1 (by rfl) (isSl_one (x := v) (by decide) (new_block _ _) ⟨rfl, by unfold maxLen; omega⟩) (conv_plain plain_val) (q := k + 1) rfl (by unfold maxLen; omega) (by omega) (fun A2 c2 w2 ap2 => ?_))
      have G2 : GrowX g w w2 := ap2.growX ((hG.trans hG1).alloc _) (Nat.le_refl _)
      have R2 := ap2.rd (hR1.of_grow ((Grow.refl _).alloc _)) hgl
      go_roundw
      case rel => exact ⟨k + 1, c2, A2, xs ++ [v], by omega, by go_num, rfl, ap2.own, fun u hu => by
        rcases List.mem_append.mp hu with hu | hu
        · exact hok u hu
        · simp at hu; subst hu; exact hv, G2, R2⟩
      case measure => simp [intOf]; omega
    · obtain rfl : k = n := by omega
      go_wp2
      go_ret
      exact ⟨P, k, c, xs, rfl, own, ⟨hxl, hok⟩, hG, hR⟩
/-- An expression and a row, drawn. -/
def EvalDrawn (w : World) (e : Ending) (w' : World) : Prop := ∃ (A B : Option Addr) (n c m d : Nat) (xs : List Tok) (ys : List Val), e = .returned (.tuple #[.slice A n c, .slice B m d]) ∧
  IsSl Kd.tok w' (Fresh w.heap.size w') A n c xs ∧ IsSl Kd.val w' (Fresh w.heap.size w') B m d ys ∧ n ≤ 15 ∧ Grow w w'
theorem drawEval_any {A : Option Addr} {len cap : Nat} {xs : List Int} (w : World) (h : IsSl Kd.byte w (· < w.heap.size) A len cap xs) :
    Calls Try.prog 14 #[.slice A len cap] w (EvalDrawn w) := by
  go_enter Try.func14, Try.ntmps14
  go_wp2_with fail
  refine (l1Open_any w h).mono ?_
  rintro e w1 ⟨g, rfl, hg, hG1, hR1⟩
  have hgl := hR1.lt
  go_wp2_with fail
  refine (expr_any g 3 3 rfl _ hR1 (by decide)).mono ?_
  rintro e w2 ⟨A2, n2, c2, xs2, rfl, own2, hx2, hG2, hR2⟩
  have l2 := own2.len
  have hn2 : n2 ≤ 15 := by have h : xs2.length + 1 ≤ 16 := hx2; omega
  go_wp2_with fail
  refine (once_any g 12 _ hR2 (by decide) (by decide)).mono ?_
  rintro e w3 ⟨x, rfl, hG3, hR3⟩
  cases x
  · go_wp2_with fail
    refine (vals_any g 3 (by decide) 3 rfl _ hR3).mono ?_
    rintro e w4 ⟨A4, n4, c4, xs4, rfl, own4, hx4, hG4, hR4⟩
    go_wp2
    go_ret2
    exact ⟨A2, A4, n2, c2, n4, c4, xs2, xs4, rfl, ((own2.growX (hG3.trans hG4) hgl).low hG1.size).isSl, (own4.low (Nat.le_trans hG1.size (hG2.trans hG3).size)).isSl, hn2, (hG2.trans (hG3.trans hG4)).grow hG1 hg⟩
  · go_wp2_with fail
    refine (below_any g 4 _ hR3 (by decide)).mono ?_
    rintro e w3b ⟨y, rfl, hy, hG3b, hR3b⟩
    have hy0 : 0 ≤ y ∧ y < 4 := by unfold RdBelow at hy; omega
    go_wp2_with fail
    refine (vals_any g y.toNat (by omega) y (by omega) _ hR3b).mono ?_
    rintro e w4 ⟨A4, n4, c4, xs4, rfl, own4, hx4, hG4, hR4⟩
    go_wp2
    go_ret2
    exact ⟨A2, A4, n2, c2, n4, c4, xs2, xs4, rfl, ((own2.growX (hG3.trans (hG3b.trans hG4)) hgl).low hG1.size).isSl, (own4.low (Nat.le_trans hG1.size (hG2.trans (hG3.trans hG3b)).size)).isSl, hn2, (hG2.trans (hG3.trans (hG3b.trans hG4))).grow hG1 hg⟩
theorem drawTruth_any {A : Option Addr} {len cap : Nat} {xs : List Int} (w : World) (h : IsSl Kd.byte w (· < w.heap.size) A len cap xs) :
    Calls Try.prog 10 #[.slice A len cap] w (EvalDrawn w) := by
  go_enter Try.func10, Try.ntmps10
  go_wp2_with fail
  refine (drawEval_any w h).mono ?_
  rintro e w1 ⟨A1, B1, n1, c1, m1, d1, xs1, ys1, rfl, h1, h2, h3, h4⟩
  go_wp2
  go_ret2
  exact ⟨A1, B1, n1, c1, m1, d1, xs1, ys1, rfl, h1, h2, h3, h4⟩
end Go.Proofs.Ytonijaniaimgaaa
