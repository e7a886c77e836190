import Derived.Test.YtdgmoplfiodahaaGreatDoorDraw1
import Derived.Test.YtdgmoplfiodahaaGreatDoorTextS
import Derived.Test.YtdgmoplfiodahaaGreatDoorFill
import Derived.Test.YtdgmoplfiodahaaGreatDoorHeld
/-! What is drawn of texts of values. -/
namespace Go.Proofs.YtdgmoplfiodahaaGreatDoor
open Go.RowKit
set_option linter.unusedVariables false
set_option linter.unusedSimpArgs false
abbrev SameX (g : Nat) (w w' : World) : Prop := ∀ b o, b < w.heap.size → b ≠ g → w'.cell? ⟨b, o, none⟩ = w.cell? ⟨b, o, none⟩
theorem GrowX.both {g : Nat} {w w' : World} (h : GrowX g w w') : GrowX g w w' ∧ SameX g w w' := ⟨h, fun b o hb hn => h.cell hb hn⟩
/-- A text of at most so many bytes is handed back, by a call that reads on. -/
def RdStr (g : Nat) (w : World) (m : Nat) (e : Ending) (w' : World) : Prop := ∃ t : ByteArray, e = .returned (.string t) ∧ t.size ≤ m ∧ GrowX g w w' ∧ IsRd w' g
theorem ext_size (s : ByteArray) (a b : Nat) : (s.extract a b).size ≤ s.size := by
  rw [ByteArray.size_extract]; omega
theorem below_of {n r : Int} (h : RdBelow n r) (hn : 0 < n) : ∃ k : Nat, r = (k : Int) ∧ (k : Int) < n := by
  obtain ⟨h0, h1⟩ := h
  exact ⟨r.toNat, by omega, by omega⟩
theorem fits3 {a : Nat} (h : a ≤ 3000) : a ≤ 9223372036854775807 := Nat.le_trans h (by decide)
set_option maxHeartbeats 2000000 in
set_option maxRecDepth 20000 in
theorem hurt_any (g : Nat) (s : ByteArray) (w : World) (h : IsRd w g) (hs : s.size ≤ 1000) : Calls Tryz.prog 30 #[.pointer (some ⟨g, 0, none⟩), .string s] w (RdStr g w 3000) := by
  have HS := Lib.hid hs
  have e1 : wrap64 ((s.size : Int) + 1) = (s.size : Int) + 1 := by unfold wrap64; omega
  go_enter Tryz.func30, Tryz.ntmps30
  go_wp2_with fail
  refine (below_any g 6 _ h (by decide)).mono ?_
  rintro e w1 ⟨x, rfl, hx, hG, hR⟩
  obtain rfl | rfl | rfl | rfl | rfl | rfl : x = 0 ∨ x = 1 ∨ x = 2 ∨ x = 3 ∨ x = 4 ∨ x = 5 := by unfold RdBelow at hx; clear e1; omega
  · go_wp2
    go_ret
    exact ⟨s, rfl, by have := HS.out; omega, hG, hR⟩
  · go_wp2_with fail
    refine (below_any g _ _ hR (by have := HS.out; clear e1; omega)).mono ?_
    rintro e w2 ⟨y, rfl, hy, hG2, hR2⟩
    obtain ⟨k, rfl, hk⟩ := below_of hy (by clear e1; omega)
    have k0 : (0 : Int) ≤ (k : Int) := Int.natCast_nonneg k
    have k1 : (k : Int) ≤ (s.size : Int) := by clear e1; omega
    have HE := Lib.hid (Nat.le_trans (ext_size s 0 k) (Nat.le_trans HS.out (show 1000 ≤ 3000 by decide)))
    go_wp2
    go_ret
    exact ⟨_, rfl, HE.out, hG.trans hG2, hR2⟩
  · by_cases hz : 0 < s.size
    · have z0 : (0 : Int) < (s.size : Int) := by clear e1; omega
      have HK := Lib.hid hz
      go_wp2_with fail
      refine (below_any g _ _ hR (by have := HS.out; clear e1; omega)).mono ?_
      rintro e w2 ⟨y, rfl, hy, hG2, hR2⟩
      obtain ⟨k, rfl, hk⟩ := below_of hy (by clear e1; omega)
      have k0 : (0 : Int) ≤ (k : Int) := Int.natCast_nonneg k
      have k1 : (k : Int) ≤ (s.size : Int) := by clear e1; omega
      have k2 : (k : Int) + 1 ≤ (s.size : Int) := by clear e1; omega
      have k3 : (0 : Int) ≤ (k : Int) + 1 := by clear e1; omega
      have ek : IntKind.i64.wrap ((k : Int) + 1) = (k : Int) + 1 := IntWalk.i64_in _ (by have := HS.out; clear e1; omega)
      have hG02 := hG.trans hG2
      have HPs := Lib.hid (Nat.le_trans (ext_size s 0 k) HS.out)
      have HRs := Lib.hid (Nat.le_trans (ext_size s (k + 1) s.size) HS.out)
      obtain ⟨P, hP⟩ : ∃ P, s.extract 0 k = P := ⟨_, rfl⟩
      obtain ⟨R, hRr⟩ : ∃ R, s.extract (k + 1) s.size = R := ⟨_, rfl⟩
      have et : ((k : Int) + 1).toNat = k + 1 := by clear e1 ek; omega
      rw [hP] at HPs
      rw [hRr] at HRs
      clear e1 hz hk hy
      go_wp2_with fail
      refine wp_region_held_drew (S := (fun w' => GrowX g w2 w' ∧ SameX g w2 w')) (by kernel_rfl) (by exact ((GrowX.refl g w2).drew).both) (fun hHeld => ?_)
      (try simp only [Act.put, List.setIfInBounds_toArray, List.set_cons_zero, List.set_cons_succ])
      ((refine held_take (i := 0) 26 (v := ?_) rfl rfl (by kernel_rfl) (by kernel_rfl) (by kernel_rfl) (fun _ _ _ h => h) (by kernel_rfl) ?_ (by assumption) ?_; rotate_left 1; (focus (intro w hSw; (try dsimp only at hSw); go_simp; (try with_reducible rfl); done)); all_goals (try simp only [Act.put, List.setIfInBounds_toArray, List.set_cons_zero, List.set_cons_succ])); (refine held_take (i := 1) 27 (v := ?_) rfl rfl (by kernel_rfl) (by kernel_rfl) (by kernel_rfl) (fun _ _ _ h => h) (by kernel_rfl) ?_ (by assumption) ?_; rotate_left 1; (focus (intro w hSw; (try dsimp only at hSw); go_simp; (try with_reducible rfl); done)); all_goals (try simp only [Act.put, List.setIfInBounds_toArray, List.set_cons_zero, List.set_cons_succ])); (refine held_take (i := 4) 30 (v := ?_) rfl rfl (by kernel_rfl) (by kernel_rfl) (by kernel_rfl) (fun _ _ _ h => h) (by kernel_rfl) ?_ (by assumption) ?_; rotate_left 1; (focus (intro w hSw; (try dsimp only at hSw); go_simp; (try with_reducible rfl); done)); all_goals (try simp only [Act.put, List.setIfInBounds_toArray, List.set_cons_zero, List.set_cons_succ])); (refine held_take (i := 9) 35 (v := ?_) rfl rfl (by kernel_rfl) (by kernel_rfl) (by kernel_rfl) (fun _ _ _ h => h) (by kernel_rfl) ?_ (by assumption) ?_; rotate_left 1; (focus (intro w hSw; (try dsimp only at hSw); go_simp; (try with_reducible rfl); done)); all_goals (try simp only [Act.put, List.setIfInBounds_toArray, List.set_cons_zero, List.set_cons_succ])); (refine held_take (i := 10) 36 (v := ?_) rfl rfl (by kernel_rfl) (by kernel_rfl) (by kernel_rfl) (fun _ _ _ h => h) (by kernel_rfl) ?_ (by assumption) ?_; rotate_left 1; (focus (intro w hSw; (try dsimp only at hSw); go_simp; (try with_reducible rfl); done)); all_goals (try simp only [Act.put, List.setIfInBounds_toArray, List.set_cons_zero, List.set_cons_succ])); (refine held_take (i := 11) 37 (v := ?_) rfl rfl (by kernel_rfl) (by kernel_rfl) (by kernel_rfl) (fun _ _ _ h => h) (by kernel_rfl) ?_ (by assumption) ?_; rotate_left 1; (focus (intro w hSw; (try dsimp only at hSw); go_simp; (try with_reducible rfl); done)); all_goals (try simp only [Act.put, List.setIfInBounds_toArray, List.set_cons_zero, List.set_cons_succ])))
      (refine held_take (i := 2) 28 (v := .string P) rfl rfl (by kernel_rfl) (by kernel_rfl) (by kernel_rfl) (fun _ _ _ h => h) (by kernel_rfl) ?_ (by assumption) ?_; (focus (intro w hSw; (try dsimp only at hSw); go_simp; all_goals exact hP)); all_goals (try simp only [Act.put, List.setIfInBounds_toArray, List.set_cons_zero, List.set_cons_succ]))
      (refine held_take (i := 12) 38 (v := .string R) rfl rfl (by kernel_rfl) (by kernel_rfl) (by kernel_rfl) (fun _ _ _ h => h) (by kernel_rfl) ?_ (by assumption) ?_; (focus (intro w hSw; (try dsimp only at hSw); go_simp; all_goals (first | exact hRr | (rw [← hRr]; simp [et])))); all_goals (try simp only [Act.put, List.setIfInBounds_toArray, List.set_cons_zero, List.set_cons_succ]))
      refine wpAnyH_ready (rs := [3, 5]) (by kernel_rfl) (by simp) ?_
      refine AllReadyH.cons rfl (fun K hK => ?_) (AllReadyH.cons rfl (fun K hK => ?_) AllReadyH.nil)
      · go_simp
        refine hK.out _ _ (by exact (((GrowX.refl g w2).drew).alloc _).both) (fun hHeld => ?_)
        clear hK K
        (try refine held_put 29 rfl ?_)
        (try simp only [Act.put, List.setIfInBounds_toArray, List.set_cons_zero, List.set_cons_succ])
        generalize hW4 : World.alloc w2 _ = W3 at hHeld ⊢
        obtain ⟨gW4, s4, c4⟩ := boxed1 hW4
        clear hW4
        have gA : GrowX g w2 W3.drew := (GrowX.of gW4).drew
        have hR4 : IsRd W3.drew g := (hR2.of_grow gW4).of_grow (Grow.refl _).drew
        have hgB : g < w2.drew.heap.size := hR2.lt
        refine wpAnyH_ready (rs := [5]) (by kernel_rfl) (by simp) ?_
        refine AllReadyH.cons rfl (fun K hK => ?_) AllReadyH.nil
        go_simp
        refine (below_any g 6 _ hR4 (by decide)).mono ?_
        rintro e w5 ⟨y, rfl, hy, hG5, hR5⟩
        have kC : ∀ o, w5.cell? ⟨w2.heap.size, o, none⟩ = _ := fun o => (hG5.cell (b := w2.heap.size) (o := o) s4 (Nat.ne_of_gt hgB)).trans (c4 o)
        have sC : w2.heap.size < w5.heap.size := Nat.lt_of_lt_of_le s4 hG5.size
        have GG := gA.trans hG5
        refine hK.out _ _ (by exact GG.both) (fun hHeld => ?_)
        clear hK K c4 s4
        (try refine held_put 31 rfl ?_)
        (try simp only [Act.put, List.setIfInBounds_toArray, List.set_cons_zero, List.set_cons_succ])
        obtain ⟨j, rfl, hj⟩ := below_of hy (by decide)
        have j0 : (0 : Int) ≤ (j : Int) := Int.natCast_nonneg j
        obtain ⟨z, hz1, hz2⟩ : ∃ z : ByteArray, w5.cell? ⟨w2.heap.size, j, none⟩ = some (.string z) ∧ z.size ≤ 1 := by
          rw [kC]
          have h6 : j = 0 ∨ j = 1 ∨ j = 2 ∨ j = 3 ∨ j = 4 ∨ j = 5 := by clear ek et; omega
          rcases h6 with rfl | rfl | rfl | rfl | rfl | rfl <;> exact ⟨_, rfl, by decide⟩
        clear kC
        have q1 : P.size + z.size ≤ 9223372036854775807 := fits3 (by have := HPs.out; clear ek et; omega)
        have q2 : P.size + z.size + R.size ≤ 9223372036854775807 := fits3 (by have := HPs.out; have := HRs.out; clear ek et; omega)
        have QF := Lib.hid (show (P ++ z ++ R).size ≤ 3000 by rw [ByteArray.size_append, ByteArray.size_append]; have := HPs.out; have := HRs.out; clear ek et q1 q2; omega)
        have p1 : ¬ 9223372036854775807 < P.size + z.size := Nat.not_lt.mpr q1
        have p2 : ¬ 9223372036854775807 < (P ++ z).size + R.size := by rw [ByteArray.size_append]; exact Nat.not_lt.mpr q2
        have p3 : ¬ 9223372036854775807 < P.size + z.size + R.size := Nat.not_lt.mpr q2
        ((refine held_take (i := 6) 32 (v := ?_) rfl rfl (by kernel_rfl) (by kernel_rfl) (by kernel_rfl) (fun _ _ _ h => h) (by kernel_rfl) ?_ (by assumption) ?_; rotate_left 1; (focus (intro w hSw; (try dsimp only at hSw); go_simp; (try with_reducible rfl); done)); all_goals (try simp only [Act.put, List.setIfInBounds_toArray, List.set_cons_zero, List.set_cons_succ])))
        refine wpAnyH_ready (rs := [7]) (by kernel_rfl) (by simp) ?_
        refine AllReadyH.cons rfl (fun K hK => ?_) AllReadyH.nil
        go_simp
        refine hK.out _ _ (by exact GG.both) (fun hHeld => ?_)
        clear hK K
        (try refine held_put 33 rfl ?_)
        (try simp only [Act.put, List.setIfInBounds_toArray, List.set_cons_zero, List.set_cons_succ])
        (refine held_take (i := 8) 34 (v := .string (P ++ z)) rfl rfl (by kernel_rfl) (by kernel_rfl) (by kernel_rfl) (fun _ _ _ h => h) (by kernel_rfl) ?_ (by assumption) ?_; (focus (intro w hSw; (try dsimp only at hSw); go_simp; all_goals (first | rw [if_neg p1] | simp [p1]))); all_goals (try simp only [Act.put, List.setIfInBounds_toArray, List.set_cons_zero, List.set_cons_succ]))
        (refine held_take (i := 13) 39 (v := .string (P ++ z ++ R)) rfl rfl (by kernel_rfl) (by kernel_rfl) (by kernel_rfl) (fun _ _ _ h => h) (by kernel_rfl) ?_ (by assumption) ?_; (focus (intro w hSw; (try dsimp only at hSw); go_simp; all_goals (first | rw [if_neg p2] | rw [if_neg p3] | simp [p2, p3]))); all_goals (try simp only [Act.put, List.setIfInBounds_toArray, List.set_cons_zero, List.set_cons_succ]))
        ((refine held_take (i := 14) 4 (v := ?_) rfl rfl (by kernel_rfl) (by kernel_rfl) (by kernel_rfl) (fun _ _ _ h => h) (by kernel_rfl) ?_ (by assumption) ?_; rotate_left 1; (focus (intro w hSw; (try dsimp only at hSw); go_simp; (try with_reducible rfl); done)); all_goals (try simp only [Act.put, List.setIfInBounds_toArray, List.set_cons_zero, List.set_cons_succ])))
        refine wpAnyH_done (by kernel_rfl) ?_ _
        go_wp2
        go_ret
        exact ⟨_, rfl, QF.out, hG02.trans GG, hR5⟩
      · go_simp
        refine (below_any g 6 _ (hR2.of_grow (Grow.refl w2).drew) (by decide)).mono ?_
        rintro e w3 ⟨y, rfl, hy, hG3, hR3⟩
        have gA : GrowX g w2 w3 := (GrowX.of (Grow.refl w2).drew).trans hG3
        refine hK.out _ _ (by exact gA.both) (fun hHeld => ?_)
        clear hK K
        (try refine held_put 31 rfl ?_)
        (try simp only [Act.put, List.setIfInBounds_toArray, List.set_cons_zero, List.set_cons_succ])
        refine wpAnyH_ready (rs := [3]) (by kernel_rfl) (by simp) ?_
        refine AllReadyH.cons rfl (fun K hK => ?_) AllReadyH.nil
        go_simp
        refine hK.out _ _ (by exact (gA.alloc _).both) (fun hHeld => ?_)
        clear hK K
        (try refine held_put 29 rfl ?_)
        (try simp only [Act.put, List.setIfInBounds_toArray, List.set_cons_zero, List.set_cons_succ])
        generalize hW4 : World.alloc w3 _ = w5 at hHeld ⊢
        obtain ⟨gW4, sC, kC⟩ := boxed1 hW4
        clear hW4
        have hR5 := hR3.of_grow gW4
        have GG := gA.trans (GrowX.of gW4)
        obtain ⟨j, rfl, hj⟩ := below_of hy (by decide)
        have j0 : (0 : Int) ≤ (j : Int) := Int.natCast_nonneg j
        obtain ⟨z, hz1, hz2⟩ : ∃ z : ByteArray, w5.cell? ⟨w3.heap.size, j, none⟩ = some (.string z) ∧ z.size ≤ 1 := by
          rw [kC]
          have h6 : j = 0 ∨ j = 1 ∨ j = 2 ∨ j = 3 ∨ j = 4 ∨ j = 5 := by clear ek et; omega
          rcases h6 with rfl | rfl | rfl | rfl | rfl | rfl <;> exact ⟨_, rfl, by decide⟩
        clear kC
        have q1 : P.size + z.size ≤ 9223372036854775807 := fits3 (by have := HPs.out; clear ek et; omega)
        have q2 : P.size + z.size + R.size ≤ 9223372036854775807 := fits3 (by have := HPs.out; have := HRs.out; clear ek et; omega)
        have QF := Lib.hid (show (P ++ z ++ R).size ≤ 3000 by rw [ByteArray.size_append, ByteArray.size_append]; have := HPs.out; have := HRs.out; clear ek et q1 q2; omega)
        have p1 : ¬ 9223372036854775807 < P.size + z.size := Nat.not_lt.mpr q1
        have p2 : ¬ 9223372036854775807 < (P ++ z).size + R.size := by rw [ByteArray.size_append]; exact Nat.not_lt.mpr q2
        have p3 : ¬ 9223372036854775807 < P.size + z.size + R.size := Nat.not_lt.mpr q2
        ((refine held_take (i := 6) 32 (v := ?_) rfl rfl (by kernel_rfl) (by kernel_rfl) (by kernel_rfl) (fun _ _ _ h => h) (by kernel_rfl) ?_ (by assumption) ?_; rotate_left 1; (focus (intro w hSw; (try dsimp only at hSw); go_simp; (try with_reducible rfl); done)); all_goals (try simp only [Act.put, List.setIfInBounds_toArray, List.set_cons_zero, List.set_cons_succ])))
        refine wpAnyH_ready (rs := [7]) (by kernel_rfl) (by simp) ?_
        refine AllReadyH.cons rfl (fun K hK => ?_) AllReadyH.nil
        go_simp
        refine hK.out _ _ (by exact GG.both) (fun hHeld => ?_)
        clear hK K
        (try refine held_put 33 rfl ?_)
        (try simp only [Act.put, List.setIfInBounds_toArray, List.set_cons_zero, List.set_cons_succ])
        (refine held_take (i := 8) 34 (v := .string (P ++ z)) rfl rfl (by kernel_rfl) (by kernel_rfl) (by kernel_rfl) (fun _ _ _ h => h) (by kernel_rfl) ?_ (by assumption) ?_; (focus (intro w hSw; (try dsimp only at hSw); go_simp; all_goals (first | rw [if_neg p1] | simp [p1]))); all_goals (try simp only [Act.put, List.setIfInBounds_toArray, List.set_cons_zero, List.set_cons_succ]))
        (refine held_take (i := 13) 39 (v := .string (P ++ z ++ R)) rfl rfl (by kernel_rfl) (by kernel_rfl) (by kernel_rfl) (fun _ _ _ h => h) (by kernel_rfl) ?_ (by assumption) ?_; (focus (intro w hSw; (try dsimp only at hSw); go_simp; all_goals (first | rw [if_neg p2] | rw [if_neg p3] | simp [p2, p3]))); all_goals (try simp only [Act.put, List.setIfInBounds_toArray, List.set_cons_zero, List.set_cons_succ]))
        ((refine held_take (i := 14) 4 (v := ?_) rfl rfl (by kernel_rfl) (by kernel_rfl) (by kernel_rfl) (fun _ _ _ h => h) (by kernel_rfl) ?_ (by assumption) ?_; rotate_left 1; (focus (intro w hSw; (try dsimp only at hSw); go_simp; (try with_reducible rfl); done)); all_goals (try simp only [Act.put, List.setIfInBounds_toArray, List.set_cons_zero, List.set_cons_succ])))
        refine wpAnyH_done (by kernel_rfl) ?_ _
        go_wp2
        go_ret
        exact ⟨_, rfl, QF.out, hG02.trans GG, hR5⟩
    · have z0 : ¬ (0 : Int) < (s.size : Int) := by clear e1; omega
      clear hz
      go_wp2
      go_ret
      exact ⟨s, rfl, by have := HS.out; clear e1; omega, hG, hR⟩
  · go_wp2_with fail
    generalize hW2 : World.alloc w1 _ = W2
    obtain ⟨hg2, hs2, k2⟩ := boxed1 hW2
    clear hW2
    refine (below_any g 3 _ (hR.of_grow hg2) (by decide)).mono ?_
    rintro e w2 ⟨y, rfl, hy, hG2, hR2⟩
    have k3 : ∀ o, w2.cell? ⟨w1.heap.size, o, none⟩ = _ := fun o => (hG2.cell hs2 (Nat.ne_of_gt hR.lt)).trans (k2 o)
    have hGG := (hG.trans (GrowX.of hg2)).trans hG2
    have y1 : s.size + 1 ≤ 9223372036854775807 := fits3 (by have := HS.out; omega)
    clear k2
    obtain rfl | rfl | rfl : y = 0 ∨ y = 1 ∨ y = 2 := by unfold RdBelow at hy; clear e1; omega
    all_goals
      clear e1 hy
      go_wp2
      go_ret
      exact ⟨_, rfl, by rw [ByteArray.size_append]; have := HS.out; exact Nat.le_trans (Nat.add_le_add_right this 1) (by decide), hGG, hR2⟩
  · go_wp2
    go_ret
    exact ⟨s, rfl, by have := HS.out; omega, hG, hR⟩
  · go_wp2
    go_ret
    exact ⟨s, rfl, by have := HS.out; omega, hG, hR⟩
end Go.Proofs.YtdgmoplfiodahaaGreatDoor
