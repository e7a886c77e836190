import Derived.Test.YtjeilgogjoidjaaGreatSchOk
/-! Schemas, as the reference tells whether they are right. -/
namespace Go.Proofs.YtjeilgogjoidjaaGreat
open Go.RowKit
set_option linter.unusedVariables false
set_option linter.unusedSimpArgs false
set_option maxRecDepth 20000 in
set_option maxHeartbeats 10000000 in
theorem sSchemaOk_any {A : Option Addr} {len cap : Nat} {s : List Table} (w : World) (h : IsSl Kd.table w (· < w.heap.size) A len cap s) :
    Calls Tryz.prog 83 #[.slice A len cap] w (Ret w (.bool (schemaOkB s))) := by
  have hlen : len ≤ maxLen := Nat.le_trans h.2.1 h.2.2.1
  have hcap : len ≤ cap := h.2.1
  have hcm : cap ≤ maxLen := h.2.2.1
  have HL := Lib.hid h.1
  unfold maxLen at hlen hcm
  go_enter Tryz.func83, Tryz.ntmps83
  go_wp2
  go_loopw [3] (fun i wr => ∃ k : Nat, k ≤ len ∧ i = .int .i64 k ∧ Grow w wr ∧ IxTo (tabQ s) s k) (fun i _ => len - (intOf i).toNat)
  case atStart => exact ⟨0, Nat.zero_le _, rfl, Grow.refl _, IxTo.zero _ _⟩
  case round =>
    obtain ⟨k, hk, rfl, hG, hall⟩ := hrel
    by_cases hlt : k < len
    · obtain ⟨b, off, x, Bcols, Mcols, Dcols, Bkey, Mkey, Dkey, Buniques, Muniques, Duniques, Bchecks, Mchecks, Dchecks, Bfks, Mfks, Dfks, rfl, hx, _, hb, zname', c0, c1, c2, c3, c4, c5, -, -, -, -, -, hrd⟩ := table_at (h.grow hG) hlt
      have HRD := Lib.hid hrd
      have i0 : (0 : Int) ≤ (k : Int) := Int.natCast_nonneg k
      have i1 : (k : Int) < (len : Int) := Int.ofNat_lt.mpr hlt
      have i2 : (k : Int) ≤ (cap : Int) := by omega
      have bad := fun (h : tabQ s k x = false) => Lib.hid (show schemaOkB s = false by rw [schemaOkB, allIx_false hx.out h, Bool.and_false, Bool.false_and])
      clear hrd
      have HT := Lib.hid ((h.grow hG).take (m := k) (by omega))
      cases hn : tableOkB x with
      | false =>
        have hf := bad (by rw [tabQ, hn]; rfl)
        clear bad
        go_wp2
        refine wp_region_held_drew (S := (fun w' => Grow wr w' ∧ Same wr w')) (by kernel_rfl) (by exact Grow.both (by repeat (with_reducible first | exact Grow.refl _ | assumption | refine Grow.drew ?_ | refine Grow.alloc ?_ _ | refine Grow.set ?_ (by first | exact Nat.le_refl _ | (simp; done) | (simp; omega) | omega) _ | exact And.left (by assumption) | refine Grow.trans ?_ (by assumption)))) (fun hHeld => ?_)
        (((refine tk 0 15 rfl rfl (v := ?_) ?_ ?_; rotate_left 1; (focus (intro w hSw; (try dsimp only at hSw); go_simp; (try with_reducible rfl); done)); all_goals (try simp only [Act.put, List.setIfInBounds_toArray, List.set_cons_zero, List.set_cons_succ])); (refine tk 1 16 rfl rfl (v := ?_) ?_ ?_; rotate_left 1; (focus (intro w hSw; (try dsimp only at hSw); go_simp; (try with_reducible rfl); done)); all_goals (try simp only [Act.put, List.setIfInBounds_toArray, List.set_cons_zero, List.set_cons_succ])); (refine tk 2 17 rfl rfl (v := ?_) ?_ ?_; rotate_left 1; (focus (intro w hSw; (try dsimp only at hSw); go_simp; (try with_reducible rfl); done)); all_goals (try simp only [Act.put, List.setIfInBounds_toArray, List.set_cons_zero, List.set_cons_succ])); (refine tk 3 18 rfl rfl (v := ?_) ?_ ?_; rotate_left 1; (focus (intro w hSw; (try dsimp only at hSw); go_simp; (try with_reducible rfl); done)); all_goals (try simp only [Act.put, List.setIfInBounds_toArray, List.set_cons_zero, List.set_cons_succ]))); (refine wpAnyH_ready (rs := [4]) (by kernel_rfl) (by simp) ?_; refine AllReadyH.cons rfl (fun K hK => ?_) AllReadyH.nil; go_simp; (go_at_call 135; refine (sTableOk_any _ x _ (Kd.grow _ HRD.out (And.left (by assumption)))).mono ?_; rintro e w1 ⟨rfl, hb⟩); refine hK.out _ _ (by exact Grow.both (by repeat (with_reducible first | exact Grow.refl _ | assumption | refine Grow.drew ?_ | refine Grow.alloc ?_ _ | refine Grow.set ?_ (by first | exact Nat.le_refl _ | (simp; done) | (simp; omega) | omega) _ | exact And.left (by assumption) | refine Grow.trans ?_ (by assumption)))) (fun hHeld => ?_); clear hK K; (try refine held_put 19 rfl ?_); (try simp only [Act.put, List.setIfInBounds_toArray, List.set_cons_zero, List.set_cons_succ])); ((refine tk 5 20 rfl rfl (v := ?_) ?_ ?_; rotate_left 1; (focus (intro w hSw; (try dsimp only at hSw); go_simp; (try with_reducible rfl); done)); all_goals (try simp only [Act.put, List.setIfInBounds_toArray, List.set_cons_zero, List.set_cons_succ])); (refine tk 6 21 rfl rfl (v := ?_) ?_ ?_; rotate_left 1; (focus (intro w hSw; (try dsimp only at hSw); go_simp; (try with_reducible rfl); done)); all_goals (try simp only [Act.put, List.setIfInBounds_toArray, List.set_cons_zero, List.set_cons_succ]))); (refine sk 7 22 rfl rfl ?_; (try simp only [Act.put, List.setIfInBounds_toArray, List.set_cons_zero, List.set_cons_succ]); refine sk 8 23 rfl rfl ?_; (try simp only [Act.put, List.setIfInBounds_toArray, List.set_cons_zero, List.set_cons_succ]); refine sk 9 24 rfl rfl ?_; (try simp only [Act.put, List.setIfInBounds_toArray, List.set_cons_zero, List.set_cons_succ]); refine sk 10 25 rfl rfl ?_; (try simp only [Act.put, List.setIfInBounds_toArray, List.set_cons_zero, List.set_cons_succ]); refine sk 11 26 rfl rfl ?_; (try simp only [Act.put, List.setIfInBounds_toArray, List.set_cons_zero, List.set_cons_succ]); refine sk 12 27 rfl rfl ?_; (try simp only [Act.put, List.setIfInBounds_toArray, List.set_cons_zero, List.set_cons_succ]); refine sk 13 28 rfl rfl ?_; (try simp only [Act.put, List.setIfInBounds_toArray, List.set_cons_zero, List.set_cons_succ]); refine sk 14 29 rfl rfl ?_; (try simp only [Act.put, List.setIfInBounds_toArray, List.set_cons_zero, List.set_cons_succ]); refine sk 15 30 rfl rfl ?_; (try simp only [Act.put, List.setIfInBounds_toArray, List.set_cons_zero, List.set_cons_succ]); refine sk 16 31 rfl rfl ?_; (try simp only [Act.put, List.setIfInBounds_toArray, List.set_cons_zero, List.set_cons_succ])); ((refine tk 17 32 rfl rfl (v := ?_) ?_ ?_; rotate_left 1; (focus (intro w hSw; (try dsimp only at hSw); go_simp; (try with_reducible rfl); done)); all_goals (try simp only [Act.put, List.setIfInBounds_toArray, List.set_cons_zero, List.set_cons_succ]))); refine wpAnyH_done (by kernel_rfl) ?_ _)
        obtain ⟨hcur, hc2⟩ : Grow wr _ ∧ Same wr _ := hHeld
        go_wp2
        go_ret
        exact ⟨ret_bool hf.out.symm, hG.trans hcur⟩
      | true =>
      cases hd : (s.take k).any (tabP1 x.name) with
      | true =>
        have hf := bad (by rw [tabQ, hd, Bool.not_true, Bool.and_false])
        have HD := Lib.hid hd
        clear bad hd
        go_wp2
        refine wp_region_held_drew (S := (fun w' => Grow wr w' ∧ Same wr w')) (by kernel_rfl) (by exact Grow.both (by repeat (with_reducible first | exact Grow.refl _ | assumption | refine Grow.drew ?_ | refine Grow.alloc ?_ _ | refine Grow.set ?_ (by first | exact Nat.le_refl _ | (simp; done) | (simp; omega) | omega) _ | exact And.left (by assumption) | refine Grow.trans ?_ (by assumption)))) (fun hHeld => ?_)
        (((refine tk 0 15 rfl rfl (v := ?_) ?_ ?_; rotate_left 1; (focus (intro w hSw; (try dsimp only at hSw); go_simp; (try with_reducible rfl); done)); all_goals (try simp only [Act.put, List.setIfInBounds_toArray, List.set_cons_zero, List.set_cons_succ])); (refine tk 1 16 rfl rfl (v := ?_) ?_ ?_; rotate_left 1; (focus (intro w hSw; (try dsimp only at hSw); go_simp; (try with_reducible rfl); done)); all_goals (try simp only [Act.put, List.setIfInBounds_toArray, List.set_cons_zero, List.set_cons_succ])); (refine tk 2 17 rfl rfl (v := ?_) ?_ ?_; rotate_left 1; (focus (intro w hSw; (try dsimp only at hSw); go_simp; (try with_reducible rfl); done)); all_goals (try simp only [Act.put, List.setIfInBounds_toArray, List.set_cons_zero, List.set_cons_succ])); (refine tk 3 18 rfl rfl (v := ?_) ?_ ?_; rotate_left 1; (focus (intro w hSw; (try dsimp only at hSw); go_simp; (try with_reducible rfl); done)); all_goals (try simp only [Act.put, List.setIfInBounds_toArray, List.set_cons_zero, List.set_cons_succ]))); (refine wpAnyH_ready (rs := [4]) (by kernel_rfl) (by simp) ?_; refine AllReadyH.cons rfl (fun K hK => ?_) AllReadyH.nil; go_simp; (first | (go_at_call 135; refine (sTableOk_any _ x _ (Kd.grow _ HRD.out (And.left (by assumption)))).mono ?_; rintro e w1 ⟨rfl, hb⟩) | (go_at_call 136; refine (l3At_yes HD.out _ (HT.out.grow (And.left (by assumption)))).mono ?_; rintro e w1 ⟨q, rfl, hb⟩)); refine hK.out _ _ (by exact Grow.both (by repeat (with_reducible first | exact Grow.refl _ | assumption | refine Grow.drew ?_ | refine Grow.alloc ?_ _ | refine Grow.set ?_ (by first | exact Nat.le_refl _ | (simp; done) | (simp; omega) | omega) _ | exact And.left (by assumption) | refine Grow.trans ?_ (by assumption)))) (fun hHeld => ?_); clear hK K; (try refine held_put 19 rfl ?_); (try simp only [Act.put, List.setIfInBounds_toArray, List.set_cons_zero, List.set_cons_succ])); ((refine tk 5 20 rfl rfl (v := ?_) ?_ ?_; rotate_left 1; (focus (intro w hSw; (try dsimp only at hSw); go_simp; (try with_reducible rfl); done)); all_goals (try simp only [Act.put, List.setIfInBounds_toArray, List.set_cons_zero, List.set_cons_succ])); (refine tk 6 21 rfl rfl (v := ?_) ?_ ?_; rotate_left 1; (focus (intro w hSw; (try dsimp only at hSw); go_simp; (try with_reducible rfl); done)); all_goals (try simp only [Act.put, List.setIfInBounds_toArray, List.set_cons_zero, List.set_cons_succ])); (refine tk 7 22 rfl rfl (v := ?_) ?_ ?_; rotate_left 1; (focus (intro w hSw; (try dsimp only at hSw); go_simp; (try with_reducible rfl); done)); all_goals (try simp only [Act.put, List.setIfInBounds_toArray, List.set_cons_zero, List.set_cons_succ])); (refine tk 8 23 rfl rfl (v := ?_) ?_ ?_; rotate_left 1; (focus (intro w hSw; (try dsimp only at hSw); go_simp; (try with_reducible rfl); done)); all_goals (try simp only [Act.put, List.setIfInBounds_toArray, List.set_cons_zero, List.set_cons_succ])); (refine tk 9 24 rfl rfl (v := ?_) ?_ ?_; rotate_left 1; (focus (intro w hSw; (try dsimp only at hSw); go_simp; (try with_reducible rfl); done)); all_goals (try simp only [Act.put, List.setIfInBounds_toArray, List.set_cons_zero, List.set_cons_succ])); (refine tk 10 25 rfl rfl (v := ?_) ?_ ?_; rotate_left 1; (focus (intro w hSw; (try dsimp only at hSw); go_simp; (try with_reducible rfl); done)); all_goals (try simp only [Act.put, List.setIfInBounds_toArray, List.set_cons_zero, List.set_cons_succ])); (refine tk 11 26 rfl rfl (v := ?_) ?_ ?_; rotate_left 1; (focus (intro w hSw; (try dsimp only at hSw); go_simp; (try with_reducible rfl); done)); all_goals (try simp only [Act.put, List.setIfInBounds_toArray, List.set_cons_zero, List.set_cons_succ])); (refine tk 12 27 rfl rfl (v := ?_) ?_ ?_; rotate_left 1; (focus (intro w hSw; (try dsimp only at hSw); go_simp; (try with_reducible rfl); done)); all_goals (try simp only [Act.put, List.setIfInBounds_toArray, List.set_cons_zero, List.set_cons_succ])); (refine tk 13 28 rfl rfl (v := ?_) ?_ ?_; rotate_left 1; (focus (intro w hSw; (try dsimp only at hSw); go_simp; (try with_reducible rfl); done)); all_goals (try simp only [Act.put, List.setIfInBounds_toArray, List.set_cons_zero, List.set_cons_succ])); (refine tk 14 29 rfl rfl (v := ?_) ?_ ?_; rotate_left 1; (focus (intro w hSw; (try dsimp only at hSw); go_simp; (try with_reducible rfl); done)); all_goals (try simp only [Act.put, List.setIfInBounds_toArray, List.set_cons_zero, List.set_cons_succ]))); (refine wpAnyH_ready (rs := [15]) (by kernel_rfl) (by simp) ?_; refine AllReadyH.cons rfl (fun K hK => ?_) AllReadyH.nil; go_simp; (first | (go_at_call 135; refine (sTableOk_any _ x _ (Kd.grow _ HRD.out (And.left (by assumption)))).mono ?_; rintro e w1 ⟨rfl, hb⟩) | (go_at_call 136; refine (l3At_yes HD.out _ (HT.out.grow (And.left (by assumption)))).mono ?_; rintro e w1 ⟨q, rfl, hb⟩)); refine hK.out _ _ (by exact Grow.both (by repeat (with_reducible first | exact Grow.refl _ | assumption | refine Grow.drew ?_ | refine Grow.alloc ?_ _ | refine Grow.set ?_ (by first | exact Nat.le_refl _ | (simp; done) | (simp; omega) | omega) _ | exact And.left (by assumption) | refine Grow.trans ?_ (by assumption)))) (fun hHeld => ?_); clear hK K; (try refine held_put 30 rfl ?_); (try simp only [Act.put, List.setIfInBounds_toArray, List.set_cons_zero, List.set_cons_succ])); ((refine tk 16 31 rfl rfl (v := ?_) ?_ ?_; rotate_left 1; (focus (intro w hSw; (try dsimp only at hSw); go_simp; (try with_reducible rfl); done)); all_goals (try simp only [Act.put, List.setIfInBounds_toArray, List.set_cons_zero, List.set_cons_succ])); (refine tk 17 32 rfl rfl (v := ?_) ?_ ?_; rotate_left 1; (focus (intro w hSw; (try dsimp only at hSw); go_simp; (try with_reducible rfl); done)); all_goals (try simp only [Act.put, List.setIfInBounds_toArray, List.set_cons_zero, List.set_cons_succ]))); refine wpAnyH_done (by kernel_rfl) ?_ _)
        obtain ⟨hcur, hc2⟩ : Grow wr _ ∧ Same wr _ := hHeld
        go_wp2
        go_ret
        exact ⟨ret_bool hf.out.symm, hG.trans hcur⟩
      | false =>
        have hp := Lib.hid (show tabQ s k x = true by rw [tabQ, hn, hd]; rfl)
        have HD := Lib.hid hd
        clear bad hd
        go_wp2
        refine wp_region_held_drew (S := (fun w' => Grow wr w' ∧ Same wr w')) (by kernel_rfl) (by exact Grow.both (by repeat (with_reducible first | exact Grow.refl _ | assumption | refine Grow.drew ?_ | refine Grow.alloc ?_ _ | refine Grow.set ?_ (by first | exact Nat.le_refl _ | (simp; done) | (simp; omega) | omega) _ | exact And.left (by assumption) | refine Grow.trans ?_ (by assumption)))) (fun hHeld => ?_)
        (((refine tk 0 15 rfl rfl (v := ?_) ?_ ?_; rotate_left 1; (focus (intro w hSw; (try dsimp only at hSw); go_simp; (try with_reducible rfl); done)); all_goals (try simp only [Act.put, List.setIfInBounds_toArray, List.set_cons_zero, List.set_cons_succ])); (refine tk 1 16 rfl rfl (v := ?_) ?_ ?_; rotate_left 1; (focus (intro w hSw; (try dsimp only at hSw); go_simp; (try with_reducible rfl); done)); all_goals (try simp only [Act.put, List.setIfInBounds_toArray, List.set_cons_zero, List.set_cons_succ])); (refine tk 2 17 rfl rfl (v := ?_) ?_ ?_; rotate_left 1; (focus (intro w hSw; (try dsimp only at hSw); go_simp; (try with_reducible rfl); done)); all_goals (try simp only [Act.put, List.setIfInBounds_toArray, List.set_cons_zero, List.set_cons_succ])); (refine tk 3 18 rfl rfl (v := ?_) ?_ ?_; rotate_left 1; (focus (intro w hSw; (try dsimp only at hSw); go_simp; (try with_reducible rfl); done)); all_goals (try simp only [Act.put, List.setIfInBounds_toArray, List.set_cons_zero, List.set_cons_succ]))); (refine wpAnyH_ready (rs := [4]) (by kernel_rfl) (by simp) ?_; refine AllReadyH.cons rfl (fun K hK => ?_) AllReadyH.nil; go_simp; (first | (go_at_call 135; refine (sTableOk_any _ x _ (Kd.grow _ HRD.out (And.left (by assumption)))).mono ?_; rintro e w1 ⟨rfl, hb⟩) | (go_at_call 136; refine (l3At_eq (any_idx HD.out) _ (HT.out.grow (And.left (by assumption)))).mono ?_; rintro e w1 ⟨rfl, hb⟩)); refine hK.out _ _ (by exact Grow.both (by repeat (with_reducible first | exact Grow.refl _ | assumption | refine Grow.drew ?_ | refine Grow.alloc ?_ _ | refine Grow.set ?_ (by first | exact Nat.le_refl _ | (simp; done) | (simp; omega) | omega) _ | exact And.left (by assumption) | refine Grow.trans ?_ (by assumption)))) (fun hHeld => ?_); clear hK K; (try refine held_put 19 rfl ?_); (try simp only [Act.put, List.setIfInBounds_toArray, List.set_cons_zero, List.set_cons_succ])); ((refine tk 5 20 rfl rfl (v := ?_) ?_ ?_; rotate_left 1; (focus (intro w hSw; (try dsimp only at hSw); go_simp; (try with_reducible rfl); done)); all_goals (try simp only [Act.put, List.setIfInBounds_toArray, List.set_cons_zero, List.set_cons_succ])); (refine tk 6 21 rfl rfl (v := ?_) ?_ ?_; rotate_left 1; (focus (intro w hSw; (try dsimp only at hSw); go_simp; (try with_reducible rfl); done)); all_goals (try simp only [Act.put, List.setIfInBounds_toArray, List.set_cons_zero, List.set_cons_succ])); (refine tk 7 22 rfl rfl (v := ?_) ?_ ?_; rotate_left 1; (focus (intro w hSw; (try dsimp only at hSw); go_simp; (try with_reducible rfl); done)); all_goals (try simp only [Act.put, List.setIfInBounds_toArray, List.set_cons_zero, List.set_cons_succ])); (refine tk 8 23 rfl rfl (v := ?_) ?_ ?_; rotate_left 1; (focus (intro w hSw; (try dsimp only at hSw); go_simp; (try with_reducible rfl); done)); all_goals (try simp only [Act.put, List.setIfInBounds_toArray, List.set_cons_zero, List.set_cons_succ])); (refine tk 9 24 rfl rfl (v := ?_) ?_ ?_; rotate_left 1; (focus (intro w hSw; (try dsimp only at hSw); go_simp; (try with_reducible rfl); done)); all_goals (try simp only [Act.put, List.setIfInBounds_toArray, List.set_cons_zero, List.set_cons_succ])); (refine tk 10 25 rfl rfl (v := ?_) ?_ ?_; rotate_left 1; (focus (intro w hSw; (try dsimp only at hSw); go_simp; (try with_reducible rfl); done)); all_goals (try simp only [Act.put, List.setIfInBounds_toArray, List.set_cons_zero, List.set_cons_succ])); (refine tk 11 26 rfl rfl (v := ?_) ?_ ?_; rotate_left 1; (focus (intro w hSw; (try dsimp only at hSw); go_simp; (try with_reducible rfl); done)); all_goals (try simp only [Act.put, List.setIfInBounds_toArray, List.set_cons_zero, List.set_cons_succ])); (refine tk 12 27 rfl rfl (v := ?_) ?_ ?_; rotate_left 1; (focus (intro w hSw; (try dsimp only at hSw); go_simp; (try with_reducible rfl); done)); all_goals (try simp only [Act.put, List.setIfInBounds_toArray, List.set_cons_zero, List.set_cons_succ])); (refine tk 13 28 rfl rfl (v := ?_) ?_ ?_; rotate_left 1; (focus (intro w hSw; (try dsimp only at hSw); go_simp; (try with_reducible rfl); done)); all_goals (try simp only [Act.put, List.setIfInBounds_toArray, List.set_cons_zero, List.set_cons_succ])); (refine tk 14 29 rfl rfl (v := ?_) ?_ ?_; rotate_left 1; (focus (intro w hSw; (try dsimp only at hSw); go_simp; (try with_reducible rfl); done)); all_goals (try simp only [Act.put, List.setIfInBounds_toArray, List.set_cons_zero, List.set_cons_succ]))); (refine wpAnyH_ready (rs := [15]) (by kernel_rfl) (by simp) ?_; refine AllReadyH.cons rfl (fun K hK => ?_) AllReadyH.nil; go_simp; (first | (go_at_call 135; refine (sTableOk_any _ x _ (Kd.grow _ HRD.out (And.left (by assumption)))).mono ?_; rintro e w1 ⟨rfl, hb⟩) | (go_at_call 136; refine (l3At_eq (any_idx HD.out) _ (HT.out.grow (And.left (by assumption)))).mono ?_; rintro e w1 ⟨rfl, hb⟩)); refine hK.out _ _ (by exact Grow.both (by repeat (with_reducible first | exact Grow.refl _ | assumption | refine Grow.drew ?_ | refine Grow.alloc ?_ _ | refine Grow.set ?_ (by first | exact Nat.le_refl _ | (simp; done) | (simp; omega) | omega) _ | exact And.left (by assumption) | refine Grow.trans ?_ (by assumption)))) (fun hHeld => ?_); clear hK K; (try refine held_put 30 rfl ?_); (try simp only [Act.put, List.setIfInBounds_toArray, List.set_cons_zero, List.set_cons_succ])); ((refine tk 16 31 rfl rfl (v := ?_) ?_ ?_; rotate_left 1; (focus (intro w hSw; (try dsimp only at hSw); go_simp; (try with_reducible rfl); done)); all_goals (try simp only [Act.put, List.setIfInBounds_toArray, List.set_cons_zero, List.set_cons_succ])); (refine tk 17 32 rfl rfl (v := ?_) ?_ ?_; rotate_left 1; (focus (intro w hSw; (try dsimp only at hSw); go_simp; (try with_reducible rfl); done)); all_goals (try simp only [Act.put, List.setIfInBounds_toArray, List.set_cons_zero, List.set_cons_succ]))); refine wpAnyH_done (by kernel_rfl) ?_ _)
        obtain ⟨hcur, hc2⟩ : Grow wr _ ∧ Same wr _ := hHeld
        go_wp2
        go_roundw
        case rel => exact ⟨k + 1, by omega, by go_num, hG.trans hcur, hall.succ hx.out hp.out⟩
        case measure => simp [intOf]; omega
    · have hq := hall.done (by rw [HL.out]; omega)
      have hok : ∀ u ∈ s, tableOkB u = true := fun u hu => by
        obtain ⟨j, hj, rfl⟩ := List.getElem_of_mem hu
        have := allIx_at hq (List.getElem?_eq_getElem hj)
        simp only [tabQ, Bool.and_eq_true] at this
        exact this.1
      have HQ := Lib.hid hq
      have HOK := Lib.hid hok
      have hend : s.any (tabBad s) = true → schemaOkB s = false := fun h => by rw [schemaOkB, h, Bool.not_true, Bool.and_false]
      have HE := Lib.hid hend
      clear hall hq hok hend
      go_wp2
      clear hlt
      go_loopw [4] (fun i wr => ∃ k : Nat, k ≤ len ∧ i = .int .i64 k ∧ Grow w wr ∧ NoneTo (tabBad s) s k) (fun i _ => len - (intOf i).toNat)
      case atStart => exact ⟨0, Nat.zero_le _, rfl, hG, NoneTo.zero _ _⟩
      case round =>
        clear hG
        obtain ⟨k1, hk1, rfl, hG, hno⟩ := hrel
        obtain ⟨wo, hwo⟩ : ∃ wo, wo = wr := ⟨_, rfl⟩
        subst hwo
        by_cases hlt : k1 < len
        · obtain ⟨b, off, x, Bcols, Mcols, Dcols, Bkey, Mkey, Dkey, Buniques, Muniques, Duniques, Bchecks, Mchecks, Dchecks, Bfks, Mfks, Dfks, rfl, hx, _, hb, zname', c0, c1, c2, c3, c4, c5, scols, -, -, -, sfks, hrd⟩ := table_at (h.grow hG) hlt
          obtain rfl := scols.1
          have HFL := Lib.hid sfks.1
          have hfm : Mfks ≤ maxLen := Nat.le_trans sfks.2.1 sfks.2.2.1
          have hn1 : x.cols.length ≤ maxLen := Nat.le_trans scols.2.1 scols.2.2.1
          unfold maxLen at hfm hn1
          have i0 : (0 : Int) ≤ (k1 : Int) := Int.natCast_nonneg k1
          have i1 : (k1 : Int) < (len : Int) := Int.ofNat_lt.mpr hlt
          have HFC := Lib.hid (fun f hf c hc => fkB_mem ((tableOkB_parts (HOK.out x (mem_of_at hx.out))).2.2.2 f hf) hc : ∀ f ∈ x.fks, ∀ c ∈ f.cols, 0 ≤ c ∧ c < (x.cols.length : Int))
          clear c0 c2 c3 c4 hrd
          go_wp2
          go_loopw [5] (fun i w2 => ∃ k : Nat, k ≤ Mfks ∧ i = .int .i64 k ∧ Grow wo w2 ∧ NoneTo (notMet s x) x.fks k) (fun i _ => Mfks - (intOf i).toNat)
          case atStart => exact ⟨0, Nat.zero_le _, rfl, Grow.refl _, NoneTo.zero _ _⟩
          case round =>
            obtain ⟨k2, hk2, rfl, hG2, hno2⟩ := hrel
            obtain ⟨w2, hwo⟩ : ∃ wo, wo = wr := ⟨_, rfl⟩
            subst hwo
            have hc2 := hG2.same
            by_cases hlt2 : k2 < Mfks
            · obtain ⟨b2, off2, f, Af, Lf, Cf, rfl, hxf, _, hb2, zt, d0, d1, d2, d3, d4, sf, -⟩ := fk_at (sfks.grow hG2) hlt2
              have j0 : (0 : Int) ≤ (k2 : Int) := Int.natCast_nonneg k2
              have j1 : (k2 : Int) < (Mfks : Int) := Int.ofNat_lt.mpr hlt2
              have hLf : Lf ≤ maxLen := Nat.le_trans sf.2.1 sf.2.2.1
              unfold maxLen at hLf
              have HF := Lib.hid sf.1
              have HFC2 := Lib.hid (HFC.out f (mem_of_at hxf.out))
              have hbW := Nat.lt_of_lt_of_le hb hG2.size
              go_wp2_with fail
              generalize hV : World.alloc w2 _ = V
              obtain ⟨gV, sV, kV⟩ := boxed1 hV
              clear hV
              have hG3 := hG2.trans gV
              have hc3 := hG3.same
              have wV := hG.trans hG3
              rcases idx_cases (tabP1 f.table) s with ⟨ha, hfi⟩ | ⟨a, u, hu, ha, hfi⟩
              · have hmet : notMet s x f = true := by simp only [notMet, metB, hfi]; rfl
                have hbadx := any_hit (xs := s) hx.out (p := tabBad s) (any_hit (xs := x.fks) hxf.out (p := notMet s x) hmet)
                have hf := Lib.hid (HE.out hbadx)
                clear hbadx hmet
                refine (l3At_eq ha _ (h.grow wV)).mono ?_
                rintro e w1 ⟨rfl, hb1⟩
                have hcb := hb1.same
                go_wp2
                refine wp_region_held_drew (S := (fun w' => Grow w1 w' ∧ Same w1 w')) (by kernel_rfl) (by exact Grow.both (by repeat (with_reducible first | exact Grow.refl _ | assumption | refine Grow.drew ?_ | refine Grow.alloc ?_ _ | refine Grow.set ?_ (by first | exact Nat.le_refl _ | (simp; done) | (simp; omega) | omega) _ | exact And.left (by assumption) | refine Grow.trans ?_ (by assumption)))) (fun hHeld => ?_)
                (((refine tk 0 61 rfl rfl (v := ?_) ?_ ?_; rotate_left 1; (focus (intro w hSw; (try dsimp only at hSw); go_simp; (try with_reducible rfl); done)); all_goals (try simp only [Act.put, List.setIfInBounds_toArray, List.set_cons_zero, List.set_cons_succ])); (refine tk 1 62 rfl rfl (v := ?_) ?_ ?_; rotate_left 1; (focus (intro w hSw; (try dsimp only at hSw); go_simp; (try with_reducible rfl); done)); all_goals (try simp only [Act.put, List.setIfInBounds_toArray, List.set_cons_zero, List.set_cons_succ])); (refine tk 2 63 rfl rfl (v := ?_) ?_ ?_; rotate_left 1; (focus (intro w hSw; (try dsimp only at hSw); go_simp; (try with_reducible rfl); done)); all_goals (try simp only [Act.put, List.setIfInBounds_toArray, List.set_cons_zero, List.set_cons_succ]))); (refine sk 3 64 rfl rfl ?_; (try simp only [Act.put, List.setIfInBounds_toArray, List.set_cons_zero, List.set_cons_succ]); refine sk 4 65 rfl rfl ?_; (try simp only [Act.put, List.setIfInBounds_toArray, List.set_cons_zero, List.set_cons_succ]); refine sk 5 66 rfl rfl ?_; (try simp only [Act.put, List.setIfInBounds_toArray, List.set_cons_zero, List.set_cons_succ]); refine sk 6 67 rfl rfl ?_; (try simp only [Act.put, List.setIfInBounds_toArray, List.set_cons_zero, List.set_cons_succ]); refine sk 7 68 rfl rfl ?_; (try simp only [Act.put, List.setIfInBounds_toArray, List.set_cons_zero, List.set_cons_succ]); refine sk 8 69 rfl rfl ?_; (try simp only [Act.put, List.setIfInBounds_toArray, List.set_cons_zero, List.set_cons_succ]); refine sk 9 70 rfl rfl ?_; (try simp only [Act.put, List.setIfInBounds_toArray, List.set_cons_zero, List.set_cons_succ]); refine sk 10 71 rfl rfl ?_; (try simp only [Act.put, List.setIfInBounds_toArray, List.set_cons_zero, List.set_cons_succ]); refine sk 11 72 rfl rfl ?_; (try simp only [Act.put, List.setIfInBounds_toArray, List.set_cons_zero, List.set_cons_succ]); refine sk 12 73 rfl rfl ?_; (try simp only [Act.put, List.setIfInBounds_toArray, List.set_cons_zero, List.set_cons_succ])); ((refine tk 13 74 rfl rfl (v := ?_) ?_ ?_; rotate_left 1; (focus (intro w hSw; (try dsimp only at hSw); go_simp; (try with_reducible rfl); done)); all_goals (try simp only [Act.put, List.setIfInBounds_toArray, List.set_cons_zero, List.set_cons_succ]))); refine wpAnyH_done (by kernel_rfl) ?_ _)
                obtain ⟨hcur2, hc4⟩ : Grow w1 _ ∧ Same w1 _ := hHeld
                go_wp2
                go_ret
                exact ⟨ret_bool hf.out.symm, wV.trans (hb1.trans hcur2)⟩
              · have hal : a < len := by have := (List.getElem?_eq_some_iff.mp hu).1; rw [HL.out] at this; exact this
                have hr := Lib.hid (show metB s x f = metU u x f by simp only [metB, hfi, hu])
                refine (l3At_eq ha _ (h.grow wV)).mono ?_
                rintro e w1 ⟨rfl, hb1⟩
                have hcb := hb1.same
                have wV1 := wV.trans hb1
                have hG4 := hG3.trans hb1
                have sV1 := Nat.lt_of_lt_of_le sV hb1.size
                have hb1W := Nat.lt_of_lt_of_le hb hG4.size
                have kV1 : ∀ o, w1.cell? ⟨w2.heap.size, o, none⟩ = _ := fun o => (hcb _ _ sV).trans (kV o)
                have hc5 : Same wo w1 := hG4.same
                obtain ⟨b3, off3, z, Ecols, Fcols, Gcols, Ekey, Fkey, Gkey, Euniques, Funiques, Guniques, Echecks, Fchecks, Gchecks, Efks, Ffks, Gfks, he3, hz, _, hb3, zname3, e0, e1, e2, e3, e4, e5, ucols, ukey, -, -, -, -⟩ := table_at (h.grow hG) hal
                simp only [Option.some.injEq, Addr.mk.injEq, and_true] at he3
                obtain ⟨rfl, rfl⟩ := he3
                obtain rfl : u = z := Option.some.inj (hu.symm.trans hz.out)
                obtain rfl := ucols.1
                have HKL := Lib.hid ukey.1
                have hk1' : Fkey ≤ maxLen := Nat.le_trans ukey.2.1 ukey.2.2.1
                have hu1 : u.cols.length ≤ maxLen := Nat.le_trans ucols.2.1 ucols.2.2.1
                unfold maxLen at hk1' hu1
                have HUK := Lib.hid (tableOkB_parts (HOK.out u (List.mem_of_getElem? hu))).1
                have a0 : (0 : Int) ≤ (a : Int) := Int.natCast_nonneg a
                have a1 : (a : Int) < (len : Int) := Int.ofNat_lt.mpr hal
                clear e0 e3 e4 e5 hz ha hfi hcb kV
                by_cases hkl : Fkey = Lf
                rotate_left
                · have hmet : notMet s x f = true := by rw [notMet, hr.out, metU, HKL.out, HF.out, decide_eq_false hkl, Bool.false_and]; rfl
                  have hbadx := any_hit (xs := s) hx.out (p := tabBad s) (any_hit (xs := x.fks) hxf.out (p := notMet s x) hmet)
                  have hf := Lib.hid (HE.out hbadx)
                  have hkl' : ((Fkey : Int) != (Lf : Int)) = true := by simp; omega
                  clear hbadx hmet hkl
                  go_wp2
                  refine wp_region_held_drew (S := (fun w' => Grow w1 w' ∧ Same w1 w')) (by kernel_rfl) (by exact Grow.both (by repeat (with_reducible first | exact Grow.refl _ | assumption | refine Grow.drew ?_ | refine Grow.alloc ?_ _ | refine Grow.set ?_ (by first | exact Nat.le_refl _ | (simp; done) | (simp; omega) | omega) _ | exact And.left (by assumption) | refine Grow.trans ?_ (by assumption)))) (fun hHeld => ?_)
                  (((refine tk 0 61 rfl rfl (v := ?_) ?_ ?_; rotate_left 1; (focus (intro w hSw; (try dsimp only at hSw); go_simp; (try with_reducible rfl); done)); all_goals (try simp only [Act.put, List.setIfInBounds_toArray, List.set_cons_zero, List.set_cons_succ])); (refine tk 1 62 rfl rfl (v := ?_) ?_ ?_; rotate_left 1; (focus (intro w hSw; (try dsimp only at hSw); go_simp; (try with_reducible rfl); done)); all_goals (try simp only [Act.put, List.setIfInBounds_toArray, List.set_cons_zero, List.set_cons_succ])); (refine tk 2 63 rfl rfl (v := ?_) ?_ ?_; rotate_left 1; (focus (intro w hSw; (try dsimp only at hSw); go_simp; (try with_reducible rfl); done)); all_goals (try simp only [Act.put, List.setIfInBounds_toArray, List.set_cons_zero, List.set_cons_succ])); (refine tk 3 64 rfl rfl (v := ?_) ?_ ?_; rotate_left 1; (focus (intro w hSw; (try dsimp only at hSw); go_simp; (try with_reducible rfl); done)); all_goals (try simp only [Act.put, List.setIfInBounds_toArray, List.set_cons_zero, List.set_cons_succ])); (refine tk 4 65 rfl rfl (v := ?_) ?_ ?_; rotate_left 1; (focus (intro w hSw; (try dsimp only at hSw); go_simp; (try with_reducible rfl); done)); all_goals (try simp only [Act.put, List.setIfInBounds_toArray, List.set_cons_zero, List.set_cons_succ])); (refine tk 5 66 rfl rfl (v := ?_) ?_ ?_; rotate_left 1; (focus (intro w hSw; (try dsimp only at hSw); go_simp; (try with_reducible rfl); done)); all_goals (try simp only [Act.put, List.setIfInBounds_toArray, List.set_cons_zero, List.set_cons_succ])); (refine tk 6 67 rfl rfl (v := ?_) ?_ ?_; rotate_left 1; (focus (intro w hSw; (try dsimp only at hSw); go_simp; (try with_reducible rfl); done)); all_goals (try simp only [Act.put, List.setIfInBounds_toArray, List.set_cons_zero, List.set_cons_succ])); (refine tk 7 68 rfl rfl (v := ?_) ?_ ?_; rotate_left 1; (focus (intro w hSw; (try dsimp only at hSw); go_simp; (try with_reducible rfl); done)); all_goals (try simp only [Act.put, List.setIfInBounds_toArray, List.set_cons_zero, List.set_cons_succ])); (refine tk 8 69 rfl rfl (v := ?_) ?_ ?_; rotate_left 1; (focus (intro w hSw; (try dsimp only at hSw); go_simp; (try with_reducible rfl); done)); all_goals (try simp only [Act.put, List.setIfInBounds_toArray, List.set_cons_zero, List.set_cons_succ])); (refine tk 9 70 rfl rfl (v := ?_) ?_ ?_; rotate_left 1; (focus (intro w hSw; (try dsimp only at hSw); go_simp; (try with_reducible rfl); done)); all_goals (try simp only [Act.put, List.setIfInBounds_toArray, List.set_cons_zero, List.set_cons_succ])); (refine tk 10 71 rfl rfl (v := ?_) ?_ ?_; rotate_left 1; (focus (intro w hSw; (try dsimp only at hSw); go_simp; (try with_reducible rfl); done)); all_goals (try simp only [Act.put, List.setIfInBounds_toArray, List.set_cons_zero, List.set_cons_succ])); (refine tk 11 72 rfl rfl (v := ?_) ?_ ?_; rotate_left 1; (focus (intro w hSw; (try dsimp only at hSw); go_simp; (try with_reducible rfl); done)); all_goals (try simp only [Act.put, List.setIfInBounds_toArray, List.set_cons_zero, List.set_cons_succ])); (refine tk 12 73 rfl rfl (v := ?_) ?_ ?_; rotate_left 1; (focus (intro w hSw; (try dsimp only at hSw); go_simp; (try with_reducible rfl); done)); all_goals (try simp only [Act.put, List.setIfInBounds_toArray, List.set_cons_zero, List.set_cons_succ])); (refine tk 13 74 rfl rfl (v := ?_) ?_ ?_; rotate_left 1; (focus (intro w hSw; (try dsimp only at hSw); go_simp; (try with_reducible rfl); done)); all_goals (try simp only [Act.put, List.setIfInBounds_toArray, List.set_cons_zero, List.set_cons_succ]))); refine wpAnyH_done (by kernel_rfl) ?_ _)
                  obtain ⟨hcur2, hc4⟩ : Grow w1 _ ∧ Same w1 _ := hHeld
                  go_wp2
                  go_ret
                  exact ⟨ret_bool hf.out.symm, wV1.trans hcur2⟩
                subst hkl
                go_wp2
                refine wp_region_held_drew (S := (fun w' => Grow w1 w' ∧ Same w1 w')) (by kernel_rfl) (by exact Grow.both (by repeat (with_reducible first | exact Grow.refl _ | assumption | refine Grow.drew ?_ | refine Grow.alloc ?_ _ | refine Grow.set ?_ (by first | exact Nat.le_refl _ | (simp; done) | (simp; omega) | omega) _ | exact And.left (by assumption) | refine Grow.trans ?_ (by assumption)))) (fun hHeld => ?_)
                (((refine tk 0 61 rfl rfl (v := ?_) ?_ ?_; rotate_left 1; (focus (intro w hSw; (try dsimp only at hSw); go_simp; (try with_reducible rfl); done)); all_goals (try simp only [Act.put, List.setIfInBounds_toArray, List.set_cons_zero, List.set_cons_succ])); (refine tk 1 62 rfl rfl (v := ?_) ?_ ?_; rotate_left 1; (focus (intro w hSw; (try dsimp only at hSw); go_simp; (try with_reducible rfl); done)); all_goals (try simp only [Act.put, List.setIfInBounds_toArray, List.set_cons_zero, List.set_cons_succ])); (refine tk 2 63 rfl rfl (v := ?_) ?_ ?_; rotate_left 1; (focus (intro w hSw; (try dsimp only at hSw); go_simp; (try with_reducible rfl); done)); all_goals (try simp only [Act.put, List.setIfInBounds_toArray, List.set_cons_zero, List.set_cons_succ])); (refine tk 3 64 rfl rfl (v := ?_) ?_ ?_; rotate_left 1; (focus (intro w hSw; (try dsimp only at hSw); go_simp; (try with_reducible rfl); done)); all_goals (try simp only [Act.put, List.setIfInBounds_toArray, List.set_cons_zero, List.set_cons_succ])); (refine tk 4 65 rfl rfl (v := ?_) ?_ ?_; rotate_left 1; (focus (intro w hSw; (try dsimp only at hSw); go_simp; (try with_reducible rfl); done)); all_goals (try simp only [Act.put, List.setIfInBounds_toArray, List.set_cons_zero, List.set_cons_succ])); (refine tk 5 66 rfl rfl (v := ?_) ?_ ?_; rotate_left 1; (focus (intro w hSw; (try dsimp only at hSw); go_simp; (try with_reducible rfl); done)); all_goals (try simp only [Act.put, List.setIfInBounds_toArray, List.set_cons_zero, List.set_cons_succ])); (refine tk 6 67 rfl rfl (v := ?_) ?_ ?_; rotate_left 1; (focus (intro w hSw; (try dsimp only at hSw); go_simp; (try with_reducible rfl); done)); all_goals (try simp only [Act.put, List.setIfInBounds_toArray, List.set_cons_zero, List.set_cons_succ])); (refine tk 7 68 rfl rfl (v := ?_) ?_ ?_; rotate_left 1; (focus (intro w hSw; (try dsimp only at hSw); go_simp; (try with_reducible rfl); done)); all_goals (try simp only [Act.put, List.setIfInBounds_toArray, List.set_cons_zero, List.set_cons_succ])); (refine tk 8 69 rfl rfl (v := ?_) ?_ ?_; rotate_left 1; (focus (intro w hSw; (try dsimp only at hSw); go_simp; (try with_reducible rfl); done)); all_goals (try simp only [Act.put, List.setIfInBounds_toArray, List.set_cons_zero, List.set_cons_succ])); (refine tk 9 70 rfl rfl (v := ?_) ?_ ?_; rotate_left 1; (focus (intro w hSw; (try dsimp only at hSw); go_simp; (try with_reducible rfl); done)); all_goals (try simp only [Act.put, List.setIfInBounds_toArray, List.set_cons_zero, List.set_cons_succ])); (refine tk 10 71 rfl rfl (v := ?_) ?_ ?_; rotate_left 1; (focus (intro w hSw; (try dsimp only at hSw); go_simp; (try with_reducible rfl); done)); all_goals (try simp only [Act.put, List.setIfInBounds_toArray, List.set_cons_zero, List.set_cons_succ])); (refine tk 11 72 rfl rfl (v := ?_) ?_ ?_; rotate_left 1; (focus (intro w hSw; (try dsimp only at hSw); go_simp; (try with_reducible rfl); done)); all_goals (try simp only [Act.put, List.setIfInBounds_toArray, List.set_cons_zero, List.set_cons_succ])); (refine tk 12 73 rfl rfl (v := ?_) ?_ ?_; rotate_left 1; (focus (intro w hSw; (try dsimp only at hSw); go_simp; (try with_reducible rfl); done)); all_goals (try simp only [Act.put, List.setIfInBounds_toArray, List.set_cons_zero, List.set_cons_succ])); (refine tk 13 74 rfl rfl (v := ?_) ?_ ?_; rotate_left 1; (focus (intro w hSw; (try dsimp only at hSw); go_simp; (try with_reducible rfl); done)); all_goals (try simp only [Act.put, List.setIfInBounds_toArray, List.set_cons_zero, List.set_cons_succ]))); refine wpAnyH_done (by kernel_rfl) ?_ _)
                obtain ⟨hcur2, hc4⟩ : Grow w1 _ ∧ Same w1 _ := hHeld
                go_wp2
                go_loopw [8] (fun i w4 => ∃ k : Nat, k ≤ Fkey ∧ i = .int .i64 k ∧ Grow w1 w4 ∧ IxTo (metP u x) f.cols k) (fun i _ => Fkey - (intOf i).toNat)
                case atStart => exact ⟨0, Nat.zero_le _, rfl, hcur2, IxTo.zero _ _⟩
                case round =>
                  clear hcur2 hc4
                  obtain ⟨k3, hk3, rfl, hG5, hall⟩ := hrel
                  obtain ⟨w4, hwo⟩ : ∃ wo, wo = wr := ⟨_, rfl⟩
                  subst hwo
                  have hc6 := hG5.same
                  have sV4 := Nat.lt_of_lt_of_le sV1 hG5.size
                  have hb4W := Nat.lt_of_lt_of_le hb1W hG5.size
                  by_cases hlt3 : k3 < Fkey
                  · obtain ⟨b5, off5, c, rfl, hxc, cc⟩ := int_at (sf.grow ((gV.trans hb1).trans hG5)) hlt3
                    have hbc := cells_lt cc
                    obtain ⟨b6, off6, q, rfl, hxq, cq⟩ := int_at (ukey.grow (hG4.trans hG5)) hlt3
                    have hbq := cells_lt cq
                    obtain ⟨hc0, hc1⟩ := HFC2.out c (mem_of_at hxc.out)
                    obtain ⟨j, rfl⟩ := Int.eq_ofNat_of_zero_le hc0
                    have hj : j < x.cols.length := by omega
                    obtain ⟨hq0, hq1⟩ := colsB_mem HUK.out (mem_of_at hxq.out)
                    obtain ⟨l, rfl⟩ := Int.eq_ofNat_of_zero_le hq0
                    have hl : l < u.cols.length := by omega
                    obtain ⟨b7, off7, y, rfl, hy, _, hb7, zn7, zd7, d0, d1, d2, d3, d4, d5, -⟩ := col_at (scols.grow (hG4.trans hG5)) hj
                    obtain ⟨b8, off8, z, he8, hz, _, hb8, zn8, zd8, f0, f1, f2, f3, f4, f5, -⟩ := col_at (ucols.grow (hG4.trans hG5)) hl
                    subst he8
                    have l0 : (0 : Int) ≤ (k3 : Int) := Int.natCast_nonneg k3
                    have l1 : (k3 : Int) < (Fkey : Int) := Int.ofNat_lt.mpr hlt3
                    have HP := Lib.hid (show metP u x k3 (j : Int) = decide (z.kind = y.kind) by simp [metP, kindAt, hxq.out, hy.out, hz.out])
                    clear d0 d2 d3 d4 d5 f0 f2 f3 f4 f5
                    by_cases hzy : y.kind = z.kind
                    · have hp := Lib.hid (show metP u x k3 (j : Int) = true by rw [HP.out, decide_eq_true hzy.symm])
                      have hzb : (y.kind != z.kind) = false := by simpa using hzy
                      clear hzy
                      go_wp2
                      go_region_held3 (fun w' => Grow w4 w' ∧ Same w4 w') (exact Grow.both (by repeat (with_reducible first | exact Grow.refl _ | assumption | refine Grow.drew ?_ | refine Grow.alloc ?_ _ | refine Grow.set ?_ (by first | exact Nat.le_refl _ | (simp; done) | (simp; omega) | omega) _ | exact And.left (by assumption) | refine Grow.trans ?_ (by assumption)))) (skip)
                      have hcur3 := (Grow.refl w4).drew
                      go_wp2
                      go_roundw
                      case rel => exact ⟨k3 + 1, by omega, by go_num, hG5.trans hcur3, hall.succ hxc.out hp.out⟩
                      case measure => simp [intOf]; omega
                    · have hmet : notMet s x f = true := by rw [notMet, hr.out, metU, allIx_false hxc.out (show metP u x k3 (j : Int) = false by rw [HP.out, decide_eq_false (fun h => hzy h.symm)]), Bool.and_false]; rfl
                      have hbadx := any_hit (xs := s) hx.out (p := tabBad s) (any_hit (xs := x.fks) hxf.out (p := notMet s x) hmet)
                      have hf := Lib.hid (HE.out hbadx)
                      have hzb : (y.kind != z.kind) = true := by simpa using hzy
                      clear hbadx hmet hzy
                      go_wp2
                      go_region_held3 (fun w' => Grow w4 w' ∧ Same w4 w') (exact Grow.both (by repeat (with_reducible first | exact Grow.refl _ | assumption | refine Grow.drew ?_ | refine Grow.alloc ?_ _ | refine Grow.set ?_ (by first | exact Nat.le_refl _ | (simp; done) | (simp; omega) | omega) _ | exact And.left (by assumption) | refine Grow.trans ?_ (by assumption)))) (skip)
                      have hcur3 := (Grow.refl w4).drew
                      go_wp2
                      go_ret
                      exact ⟨ret_bool hf.out.symm, wV1.trans (hG5.trans hcur3)⟩
                  · have hp := Lib.hid (show notMet s x f = false by rw [notMet, hr.out, metU, hall.done (by rw [HF.out]; omega), HKL.out, HF.out, decide_eq_true rfl]; rfl)
                    go_wp2
                    go_roundw
                    case rel => exact ⟨k2 + 1, by omega, by go_num, hG4.trans hG5, hno2.succ hxf.out hp.out⟩
                    case measure => simp [intOf]; omega
            · have hp := Lib.hid (show tabBad s x = false from any_none hno2 (by rw [HFL.out]; omega))
              go_wp2
              go_roundw
              case rel => exact ⟨k1 + 1, by omega, by go_num, hG.trans hG2, hno.succ hx.out hp.out⟩
              case measure => simp [intOf]; omega
        · have hf := Lib.hid (show schemaOkB s = decide ((len : Int) ≤ 5) by rw [schemaOkB, HQ.out, any_none hno (by rw [HL.out]; omega), HL.out, Bool.and_true, Bool.eq_iff_iff]; simp; try omega)
          go_wp2
          go_ret
          exact ⟨ret_bool hf.out.symm, hG⟩
end Go.Proofs.YtjeilgogjoidjaaGreat
