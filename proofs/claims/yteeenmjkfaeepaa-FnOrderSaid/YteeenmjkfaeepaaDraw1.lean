import Derived.Test.YteeenmjkfaeepaaRd
/-! What is drawn of values and truths. -/
namespace Go.Proofs.Yteeenmjkfaeepaa
open Go.RowKit
set_option linter.unusedVariables false
set_option linter.unusedSimpArgs false
theorem drawAnd3_any {A : Option Addr} {len cap : Nat} {xs : List Int} (w : World) (h : IsSl Kd.byte w (· < w.heap.size) A len cap xs) :
    Calls Try.prog 32 #[.slice A len cap] w fun e w' => ∃ a b : Int, e = .returned (.tuple #[.int .i64 a, .int .i64 b]) ∧ Grow w w' := by
  go_enter Try.func32, Try.ntmps32
  go_wp2_with fail
  refine (l1Open_any w h).mono ?_
  rintro e w1 ⟨g, rfl, hg, hG, hR⟩
  go_wp2_with fail
  refine (off_any g _ _ _ hR (by decide) (by decide)).mono ?_
  rintro e w2 ⟨a, rfl, _, hG2, hR2⟩
  go_wp2_with fail
  refine (off_any g _ _ _ hR2 (by decide) (by decide)).mono ?_
  rintro e w3 ⟨b, rfl, _, hG3, hR3⟩
  go_wp2
  go_ret2
  exact ⟨a, b, rfl, (hG2.trans hG3).grow hG hg⟩
theorem drawNot3_any {A : Option Addr} {len cap : Nat} {xs : List Int} (w : World) (h : IsSl Kd.byte w (· < w.heap.size) A len cap xs) :
    Calls Try.prog 34 #[.slice A len cap] w fun e w' => ∃ a : Int, Ret w (.int .i64 a) e w' := by
  go_enter Try.func34, Try.ntmps34
  go_wp2_with fail
  refine (l1Open_any w h).mono ?_
  rintro e w1 ⟨g, rfl, hg, hG, hR⟩
  go_wp2_with fail
  refine (off_any g _ _ _ hR (by decide) (by decide)).mono ?_
  rintro e w2 ⟨a, rfl, _, hG2, hR2⟩
  go_wp2
  go_ret
  exact ⟨a, rfl, hG2.grow hG hg⟩
theorem drawOrder_any {A : Option Addr} {len cap : Nat} {xs : List Int} (w : World) (h : IsSl Kd.byte w (· < w.heap.size) A len cap xs) :
    Calls Try.prog 36 #[.slice A len cap] w fun e w' => ∃ a b : Val, e = .returned (.tuple #[.agg #[.int .i64 a.kind, .int .i64 a.n, .string a.s], .agg #[.int .i64 b.kind, .int .i64 b.n, .string b.s]]) ∧ okB a = true ∧ okB b = true ∧ a.s.size ≤ 12 ∧ b.s.size ≤ 12 ∧ Grow w w' := by
  go_enter Try.func36, Try.ntmps36
  go_wp2_with fail
  generalize hW : World.alloc (World.alloc w _) _ = W
  obtain ⟨hw, hs0, hs1, hB0, hB1⟩ := boxedB2 hW
  clear hW
  refine (l1Open_any W (h.grow hw)).mono ?_
  rintro e w1 ⟨g, rfl, hg, hG, hR⟩
  have hn0 : w.heap.size ≠ g := by omega
  have hn1 : w.heap.size + 1 ≠ g := by omega
  replace hB0 := Lib.hid ((hG.block hs0).trans hB0)
  replace hB1 := Lib.hid ((hG.block hs1).trans hB1)
  have hs0' := Nat.lt_of_lt_of_le hs0 hG.size
  have hs1' := Nat.lt_of_lt_of_le hs1 hG.size
  go_wp2_with fail
  refine (val_any g _ hR).mono ?_
  rintro e w2 ⟨⟨k, n, s⟩, rfl, ha, ha2, hG2, hR2⟩
  dsimp only at ha2 ⊢
  go_wp2_with fail
  generalize hW2 : World.alloc w2 _ = W2
  obtain ⟨hw2, hs2, hB2⟩ := boxedB hW2
  clear hW2
  have hB0' := Lib.hid ((hw2.block (Nat.lt_of_lt_of_le hs0' hG2.size)).trans ((hG2.block _ hs0' hn0).trans hB0.out))
  have hB1' := Lib.hid ((hw2.block (Nat.lt_of_lt_of_le hs1' hG2.size)).trans ((hG2.block _ hs1' hn1).trans hB1.out))
  refine (once_any g 4 _ (hR2.of_grow hw2) (by decide) (by decide)).mono ?_
  rintro e w3 ⟨y, rfl, hG3, hR3⟩
  have hl0 := Nat.lt_of_lt_of_le (Nat.lt_of_lt_of_le hs0' hG2.size) hw2.size
  have hl1 := Nat.lt_of_lt_of_le (Nat.lt_of_lt_of_le hs1' hG2.size) hw2.size
  have hn2 : w2.heap.size ≠ g := Nat.ne_of_gt hR2.lt
  have HB0 := Lib.hid ((hG3.block _ hl0 hn0).trans hB0'.out)
  have HB1 := Lib.hid ((hG3.block _ hl1 hn1).trans hB1'.out)
  have HB2 := Lib.hid ((hG3.block _ hs2 hn2).trans hB2)
  have hk0 := Nat.lt_of_lt_of_le hl0 hG3.size
  have hk1 := Nat.lt_of_lt_of_le hl1 hG3.size
  have hk2 := Nat.lt_of_lt_of_le hs2 hG3.size
  have hq01 : w.heap.size < w2.heap.size := Nat.lt_of_lt_of_le hs0' hG2.size
  have hq11 : w.heap.size + 1 < w2.heap.size := Nat.lt_of_lt_of_le hs1' hG2.size
  clear hB0 hB1 hB0' hB1' hB2 hs0 hs1 hs0' hs1' hl0 hl1
  obtain ⟨c0, f0⟩ := free_of HB0.out
  obtain ⟨c1, f1⟩ := free_of HB1.out
  obtain ⟨c2, f2⟩ := free_of HB2.out
  have hwg : w.heap.size ≤ g := Nat.le_trans hw.size hg
  have G3 : Grow w w3 := hG3.grow ((hG2.grow (hw.trans hG) hwg).trans hw2) hwg
  cases y
  · go_wp2_with fail
    go_region_with ((go_at_call 49; refine (val_any g _ (hR3.of_grow (Grow.refl _).drew)).mono ?_; rintro e w4 ⟨⟨k', n', s'⟩, rfl, hb, hb2, hG4, hR4⟩; obtain ⟨d0, e0⟩ := free_of ((hG4.block _ hk0 hn0).trans HB0.out); obtain ⟨d1, e1⟩ := free_of ((hG4.block _ hk1 hn1).trans HB1.out);  obtain ⟨d2, e2⟩ := free_of ((hG4.block _ hk2 hn2).trans HB2.out); have G4 := hG4.grow G3.drew hwg))
    all_goals go_wp2
    all_goals exact bodyPost_ret (v := .tuple #[.agg #[.int .i64 k, .int .i64 n, .string s], .agg #[.int .i64 k', .int .i64 n', .string s']]) (by simp [results, Try.results36, go_sem, d0, d1]) rfl ⟨⟨k, n, s⟩, ⟨k', n', s'⟩, rfl, ha, hb, ha2, hb2, (by repeat (with_reducible first | exact Grow.refl _ | assumption | refine Grow.drew ?_ | refine Grow.alloc ?_ _ | refine Grow.set ?_ (by first | exact Nat.le_refl _ | (simp; done) | (simp; omega) | omega) _ | exact And.left (by assumption) | refine Grow.trans ?_ (by assumption)))⟩
  · go_wp2_with fail
    go_region
    go_wp2
    exact bodyPost_ret (v := .tuple #[.agg #[.int .i64 k, .int .i64 n, .string s], .agg #[.int .i64 k, .int .i64 n, .string s]]) (by simp [results, Try.results36, go_sem, c0, c1]) rfl ⟨⟨k, n, s⟩, ⟨k, n, s⟩, rfl, ha, ha, ha2, ha2, (by repeat (with_reducible first | exact Grow.refl _ | assumption | refine Grow.drew ?_ | refine Grow.alloc ?_ _ | refine Grow.set ?_ (by first | exact Nat.le_refl _ | (simp; done) | (simp; omega) | omega) _ | exact And.left (by assumption) | refine Grow.trans ?_ (by assumption)))⟩
theorem drawEqual3_any {A : Option Addr} {len cap : Nat} {xs : List Int} (w : World) (h : IsSl Kd.byte w (· < w.heap.size) A len cap xs) :
    Calls Try.prog 35 #[.slice A len cap] w fun e w' => ∃ a b : Val, e = .returned (.tuple #[.agg #[.int .i64 a.kind, .int .i64 a.n, .string a.s], .agg #[.int .i64 b.kind, .int .i64 b.n, .string b.s]]) ∧ okB a = true ∧ okB b = true ∧ a.s.size ≤ 12 ∧ b.s.size ≤ 12 ∧ Grow w w' := by
  go_enter Try.func35, Try.ntmps35
  go_wp2_with fail
  generalize hW : World.alloc (World.alloc w _) _ = W
  obtain ⟨hw, hs0, hs1, hB0, hB1⟩ := boxedB2 hW
  clear hW
  refine (drawOrder_any W (h.grow hw)).mono ?_
  rintro e w1 ⟨⟨k, n, s⟩, ⟨k', n', s'⟩, rfl, ha, hb, ha2, hb2, hG⟩
  obtain ⟨c0, f0⟩ := free_of ((hG.block hs0).trans hB0)
  obtain ⟨c1, f1⟩ := free_of ((hG.block hs1).trans hB1)
  clear hB0 hB1
  have G1 := hw.trans hG
  go_wp2
  exact bodyPost_ret (v := .tuple #[.agg #[.int .i64 k, .int .i64 n, .string s], .agg #[.int .i64 k', .int .i64 n', .string s']]) (by simp [results, Try.results35, go_sem, c0, c1]) rfl ⟨⟨k, n, s⟩, ⟨k', n', s'⟩, rfl, ha, hb, ha2, hb2, (by repeat (with_reducible first | exact Grow.refl _ | assumption | refine Grow.drew ?_ | refine Grow.alloc ?_ _ | refine Grow.set ?_ (by first | exact Nat.le_refl _ | (simp; done) | (simp; omega) | omega) _ | exact And.left (by assumption) | refine Grow.trans ?_ (by assumption)))⟩
theorem drawOr3_any {A : Option Addr} {len cap : Nat} {xs : List Int} (w : World) (h : IsSl Kd.byte w (· < w.heap.size) A len cap xs) :
    Calls Try.prog 33 #[.slice A len cap] w fun e w' => ∃ a b : Int, e = .returned (.tuple #[.int .i64 a, .int .i64 b]) ∧ Grow w w' := by
  go_enter Try.func33, Try.ntmps33
  go_wp2_with fail
  refine (drawAnd3_any w h).mono ?_
  rintro e w1 ⟨a, b, rfl, hg⟩
  go_wp2
  go_ret2
  exact ⟨a, b, rfl, hg⟩
theorem drawValOk_any {A : Option Addr} {len cap : Nat} {xs : List Int} (w : World) (h : IsSl Kd.byte w (· < w.heap.size) A len cap xs) :
    Calls Try.prog 37 #[.slice A len cap] w fun e w' => ∃ a : Val, e = .returned (.agg #[.int .i64 a.kind, .int .i64 a.n, .string a.s]) ∧ a.s.size ≤ 12 ∧ Grow w w' := by
  go_enter Try.func37, Try.ntmps37
  go_wp2_with fail
  generalize hW : World.alloc w _ = W
  obtain ⟨hw, hs0, hB0⟩ := boxedB hW
  clear hW
  refine (l1Open_any W (h.grow hw)).mono ?_
  rintro e w1 ⟨g, rfl, hg, hG, hR⟩
  have hn0 : w.heap.size ≠ g := by omega
  have hwg : w.heap.size ≤ g := Nat.le_trans hw.size hg
  replace hB0 := Lib.hid ((hG.block hs0).trans hB0)
  have hs0' := Nat.lt_of_lt_of_le hs0 hG.size
  go_wp2_with fail
  refine (val_any g _ hR).mono ?_
  rintro e w2 ⟨⟨k, n, s⟩, rfl, ha, ha2, hG2, hR2⟩
  dsimp only at ha2 ⊢
  have G2 : Grow w w2 := hG2.grow (hw.trans hG) hwg
  go_wp2_with fail
  generalize hW2 : World.alloc w2 _ = W2
  obtain ⟨hw2, hs2, hB2⟩ := boxedB hW2
  clear hW2
  have hB0' := Lib.hid ((hw2.block (Nat.lt_of_lt_of_le hs0' hG2.size)).trans ((hG2.block _ hs0' hn0).trans hB0.out))
  refine (below_any g 8 _ (hR2.of_grow hw2) (by decide)).mono ?_
  rintro e w3 ⟨y, rfl, _, hG3, hR3⟩
  have hn2 : w2.heap.size ≠ g := Nat.ne_of_gt hR2.lt
  have hl0 := Nat.lt_of_lt_of_le (Nat.lt_of_lt_of_le hs0' hG2.size) hw2.size
  have HB0 := Lib.hid ((hG3.block _ hl0 hn0).trans hB0'.out)
  have HB2 := Lib.hid ((hG3.block _ hs2 hn2).trans hB2)
  have hk0 := Nat.lt_of_lt_of_le hl0 hG3.size
  have hk2 := Nat.lt_of_lt_of_le hs2 hG3.size
  have hq : w.heap.size < w2.heap.size := Nat.lt_of_lt_of_le hs0' hG2.size
  have G3 : Grow w w3 := hG3.grow (G2.trans hw2) hwg
  clear hB0 hB0' hB2 hs0 hs0' hl0
  obtain ⟨c0, f0⟩ := free_of HB0.out
  obtain ⟨c2, f2⟩ := free_of HB2.out
  go_wp2_with ((go_at_call 48; refine (off_any g _ _ _ hR3 (by decide) (by decide)).mono ?_; rintro e w4 ⟨m, rfl, _, hG4, hR4⟩; obtain ⟨d0, e0⟩ := free_of ((hG4.block _ hk0 hn0).trans HB0.out); obtain ⟨d2, e2⟩ := free_of ((hG4.block _ hk2 hn2).trans HB2.out); have G4 := hG4.grow G3 hwg))
  · exact bodyPost_ret (v := .agg #[.int .i64 m, .int .i64 n, .string s]) (by simp [results, Try.results37, go_sem, d0]) rfl ⟨⟨m, n, s⟩, rfl, ha2, (by repeat (with_reducible first | exact Grow.refl _ | assumption | refine Grow.drew ?_ | refine Grow.alloc ?_ _ | refine Grow.set ?_ (by first | exact Nat.le_refl _ | (simp; done) | (simp; omega) | omega) _ | exact And.left (by assumption) | refine Grow.trans ?_ (by assumption)))⟩
  · exact bodyPost_ret (v := .agg #[.int .i64 k, .int .i64 m, .string s]) (by simp [results, Try.results37, go_sem, d0]) rfl ⟨⟨k, m, s⟩, rfl, ha2, (by repeat (with_reducible first | exact Grow.refl _ | assumption | refine Grow.drew ?_ | refine Grow.alloc ?_ _ | refine Grow.set ?_ (by first | exact Nat.le_refl _ | (simp; done) | (simp; omega) | omega) _ | exact And.left (by assumption) | refine Grow.trans ?_ (by assumption)))⟩
  · exact bodyPost_ret (v := .agg #[.int .i64 k, .int .i64 n, .string s]) (by simp [results, Try.results37, go_sem, c0]) rfl ⟨⟨k, n, s⟩, rfl, ha2, (by repeat (with_reducible first | exact Grow.refl _ | assumption | refine Grow.drew ?_ | refine Grow.alloc ?_ _ | refine Grow.set ?_ (by first | exact Nat.le_refl _ | (simp; done) | (simp; omega) | omega) _ | exact And.left (by assumption) | refine Grow.trans ?_ (by assumption)))⟩
end Go.Proofs.Yteeenmjkfaeepaa
