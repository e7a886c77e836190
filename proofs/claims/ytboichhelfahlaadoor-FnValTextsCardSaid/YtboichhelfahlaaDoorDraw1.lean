import Derived.Test.YtboichhelfahlaaDoorRd
/-! What is drawn of values and truths. -/
namespace Go.Proofs.YtboichhelfahlaaDoor
open Go.RowKit
set_option linter.unusedVariables false
set_option linter.unusedSimpArgs false
theorem drawValOk_any {A : Option Addr} {len cap : Nat} {xs : List Int} (w : World) (h : IsSl Kd.byte w (· < w.heap.size) A len cap xs) :
    Calls Tryd.prog 45 #[.slice A len cap] w fun e w' => ∃ a : Val, e = .returned (.agg #[.int .i64 a.kind, .int .i64 a.n, .string a.s]) ∧ a.s.size ≤ 12 ∧ Grow w w' := by
  go_enter Tryd.func45, Tryd.ntmps45
  go_wp2_with fail
  generalize hW : World.alloc w _ = W
  obtain ⟨hw, hs0, hB0⟩ := boxedB hW
  clear hW
  refine (l1Open_any W (h.grow hw)).mono ?_
  rintro e w1 ⟨g, rfl, hg, hG, hR⟩
  have hn0 : w.heap.size ≠ g := by omega
  have hwg : w.heap.size ≤ g := Nat.le_trans hw.size hg
  replace hB0 := Lib.hid ((hG.block hs0).trans hB0)
  have hs0' := Nat.lt_of_lt_of_le hs0 hG.size
  go_wp2_with fail
  refine (val_any g _ hR).mono ?_
  rintro e w2 ⟨⟨k, n, s⟩, rfl, ha, ha2, hG2, hR2⟩
  dsimp only at ha2 ⊢
  have G2 : Grow w w2 := hG2.grow (hw.trans hG) hwg
  go_wp2_with fail
  generalize hW2 : World.alloc w2 _ = W2
  obtain ⟨hw2, hs2, hB2⟩ := boxedB hW2
  clear hW2
  have hB0' := Lib.hid ((hw2.block (Nat.lt_of_lt_of_le hs0' hG2.size)).trans ((hG2.block _ hs0' hn0).trans hB0.out))
  refine (below_any g 8 _ (hR2.of_grow hw2) (by decide)).mono ?_
  rintro e w3 ⟨y, rfl, _, hG3, hR3⟩
  have hn2 : w2.heap.size ≠ g := Nat.ne_of_gt hR2.lt
  have hl0 := Nat.lt_of_lt_of_le (Nat.lt_of_lt_of_le hs0' hG2.size) hw2.size
  have HB0 := Lib.hid ((hG3.block _ hl0 hn0).trans hB0'.out)
  have HB2 := Lib.hid ((hG3.block _ hs2 hn2).trans hB2)
  have hk0 := Nat.lt_of_lt_of_le hl0 hG3.size
  have hk2 := Nat.lt_of_lt_of_le hs2 hG3.size
  have hq : w.heap.size < w2.heap.size := Nat.lt_of_lt_of_le hs0' hG2.size
  have G3 : Grow w w3 := hG3.grow (G2.trans hw2) hwg
  clear hB0 hB0' hB2 hs0 hs0' hl0
  obtain ⟨c0, f0⟩ := free_of HB0.out
  obtain ⟨c2, f2⟩ := free_of HB2.out
  go_wp2_with ((go_at_call 65; refine (off_any g _ _ _ hR3 (by decide) (by decide)).mono ?_; rintro e w4 ⟨m, rfl, _, hG4, hR4⟩; obtain ⟨d0, e0⟩ := free_of ((hG4.block _ hk0 hn0).trans HB0.out); obtain ⟨d2, e2⟩ := free_of ((hG4.block _ hk2 hn2).trans HB2.out); have G4 := hG4.grow G3 hwg))
  · exact bodyPost_ret (v := .agg #[.int .i64 m, .int .i64 n, .string s]) (by simp [results, Tryd.results45, go_sem, d0]) rfl ⟨⟨m, n, s⟩, rfl, ha2, (by repeat (with_reducible first | exact Grow.refl _ | assumption | refine Grow.drew ?_ | refine Grow.alloc ?_ _ | refine Grow.set ?_ (by first | exact Nat.le_refl _ | (simp; done) | (simp; omega) | omega) _ | exact And.left (by assumption) | refine Grow.trans ?_ (by assumption)))⟩
  · exact bodyPost_ret (v := .agg #[.int .i64 k, .int .i64 m, .string s]) (by simp [results, Tryd.results45, go_sem, d0]) rfl ⟨⟨k, m, s⟩, rfl, ha2, (by repeat (with_reducible first | exact Grow.refl _ | assumption | refine Grow.drew ?_ | refine Grow.alloc ?_ _ | refine Grow.set ?_ (by first | exact Nat.le_refl _ | (simp; done) | (simp; omega) | omega) _ | exact And.left (by assumption) | refine Grow.trans ?_ (by assumption)))⟩
  · exact bodyPost_ret (v := .agg #[.int .i64 k, .int .i64 n, .string s]) (by simp [results, Tryd.results45, go_sem, c0]) rfl ⟨⟨k, n, s⟩, rfl, ha2, (by repeat (with_reducible first | exact Grow.refl _ | assumption | refine Grow.drew ?_ | refine Grow.alloc ?_ _ | refine Grow.set ?_ (by first | exact Nat.le_refl _ | (simp; done) | (simp; omega) | omega) _ | exact And.left (by assumption) | refine Grow.trans ?_ (by assumption)))⟩
end Go.Proofs.YtboichhelfahlaaDoor
