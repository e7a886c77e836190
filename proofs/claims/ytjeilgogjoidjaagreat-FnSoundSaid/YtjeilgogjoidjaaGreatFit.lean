import Derived.Test.YtjeilgogjoidjaaGreatDataP
import Derived.Test.YtjeilgogjoidjaaGreatTruth
import Derived.Test.YtjeilgogjoidjaaGreatEvalS
/-! Values for a table: do they fit, is there a null, is a check false? -/
namespace Go.Proofs.YtjeilgogjoidjaaGreat
open Go.RowKit
set_option linter.unusedVariables false
set_option linter.unusedSimpArgs false
theorem fitB_len {cols : List Col} {vals : List Val} (h : vals.length ≠ cols.length) : fitB cols vals = false := by
  simp [fitB, h]
theorem fitB_eq {cols : List Col} {vals : List Val} {r : Bool} (h : vals.length = cols.length) (hr : allIx (fitP cols) vals = r) : fitB cols vals = r := by
  simp [fitB, h, hr]
theorem table_checks {t : Table} (h : tableOkB t = true) : ∀ c ∈ t.checks, exprL t.cols.length c.expr = true := fun c hc => by
  have h2 : chkBad t = false := by
    simp only [tableOkB, Bool.and_eq_true, Bool.not_eq_true'] at h
    simp_all
  unfold chkBad at h2
  have := List.any_eq_false.mp h2 c hc
  simp only [chkP, Bool.not_eq_true', Bool.not_eq_false, exprB, Bool.and_eq_true] at this
  exact this.2
set_option maxHeartbeats 1000000 in
theorem fit_any (cs : List Value) (t : Table) {B : Option Addr} {lb cb : Nat} {vals : List Val} (w : World) (h : Kd.table.rd w (· < w.heap.size) cs t) (hv : IsSl Kd.val w (· < w.heap.size) B lb cb vals) :
    Calls Tryz.prog 62 #[.agg cs.toArray, .slice B lb cb] w (Ret w (.bool (fitB t.cols vals))) := by
  obtain ⟨Acols, Lcols, Ccols, Akey, Lkey, Ckey, Auniques, Luniques, Cuniques, Achecks, Lchecks, Cchecks, Afks, Lfks, Cfks, rfl, zname, scols, skey, suniques, schecks, sfks⟩ := h
  have hb1 : lb ≤ maxLen := Nat.le_trans hv.2.1 hv.2.2.1
  have hc1 : Lcols ≤ maxLen := Nat.le_trans scols.2.1 scols.2.2.1
  have HV := Lib.hid hv.1
  have HC := Lib.hid scols.1
  unfold maxLen at hb1 hc1
  by_cases hl : lb = Lcols
  rotate_left
  · have hf := Lib.hid (fitB_len (cols := t.cols) (vals := vals) (by rw [HV.out, HC.out]; exact hl))
    have e1 : (lb == Lcols) = false := by simpa using hl
    have e2 : (lb != Lcols) = true := by simpa using hl
    go_enter Tryz.func62, Tryz.ntmps62
    go_wp2_with fail
    all_goals go_ret
    all_goals exact ⟨ret_bool hf.out.symm, (by repeat (with_reducible first | exact Grow.refl _ | assumption | refine Grow.drew ?_ | refine Grow.alloc ?_ _ | refine Grow.set ?_ (by first | exact Nat.le_refl _ | (simp; done) | (simp; omega) | omega) _ | exact And.left (by assumption) | refine Grow.trans ?_ (by assumption)))⟩
  · subst hl
    have hg2 := fun (r : Bool) => fitB_eq (cols := t.cols) (vals := vals) (r := r) (by rw [HV.out, HC.out])
    have HG := Lib.hid hg2
    clear hg2
    go_enter Tryz.func62, Tryz.ntmps62
    go_wp2_with fail
    generalize hW : World.alloc w _ = W
    obtain ⟨hg, hs', k1⟩ := boxed1 hW
    clear hW
    have hcur := Grow.refl W
    clear hcur
    go_loopw [15] (fun i wr => ∃ k : Nat, k ≤ lb ∧ i = .int .i64 k ∧ Grow W wr ∧ IxTo (fitP t.cols) vals k) (fun i _ => lb - (intOf i).toNat)
    case atStart => exact ⟨0, Nat.zero_le _, rfl, Grow.refl _, IxTo.zero _ _⟩
    case round =>
      obtain ⟨k, hk, rfl, hG, hall⟩ := hrel
      by_cases hlt : k < lb
      · obtain ⟨b, off, x, rfl, hx, _, hb, zx, c0, c1, c2⟩ := val_at (hv.grow (hg.trans hG)) hlt
        obtain ⟨b2, off2, y, rfl, hy, _, hb2, zn, zd, d0, d1, d2, d3, d4, d5, hrd⟩ := col_at (scols.grow (hg.trans hG)) hlt
        have hp := Lib.hid (show fitP t.cols k x = ofB x y.kind by simp [fitP, hy.out])
        have i0 : (0 : Int) ≤ (k : Int) := Int.natCast_nonneg k
        have i1 : (k : Int) < (lb : Int) := Int.ofNat_lt.mpr hlt
        have t1 := (hG.same _ 1 hs').trans (k1 1)
        have hsr := Nat.lt_of_lt_of_le hs' hG.size
        cases hof : ofB x y.kind with
        | false =>
          have hf := Lib.hid (HG.out false (allIx_false hx.out (by rw [hp.out, hof])))
          have HO := Lib.hid (show ofB ⟨x.kind, x.n, x.s⟩ y.kind = false from hof)
          clear hof
          go_wp2_with fail
          generalize hV : World.alloc wr _ = V
          obtain ⟨gV, sV, kV⟩ := boxed1 hV
          clear hV
          have t1V := (gV.same _ _ hsr).trans t1
          have hsV := Nat.lt_of_lt_of_le hsr gV.size
          have d1V := (gV.same _ _ hb2).trans d1
          have hbV := Nat.lt_of_lt_of_le hb2 gV.size
          refine wp_region_held_drew (S := (fun w' => Grow V w' ∧ Same V w')) (by kernel_rfl) (by exact Grow.both (by repeat (with_reducible first | exact Grow.refl _ | assumption | refine Grow.drew ?_ | refine Grow.alloc ?_ _ | refine Grow.set ?_ (by first | exact Nat.le_refl _ | (simp; done) | (simp; omega) | omega) _ | exact And.left (by assumption) | refine Grow.trans ?_ (by assumption)))) (fun hHeld => ?_)
          (((refine tk 0 20 rfl rfl (v := ?_) ?_ ?_; rotate_left 1; (focus (intro w hSw; (try dsimp only at hSw); go_simp; (try with_reducible rfl); done)); all_goals (try simp only [Act.put, List.setIfInBounds_toArray, List.set_cons_zero, List.set_cons_succ])); (refine tk 1 21 rfl rfl (v := ?_) ?_ ?_; rotate_left 1; (focus (intro w hSw; (try dsimp only at hSw); go_simp; (try with_reducible rfl); done)); all_goals (try simp only [Act.put, List.setIfInBounds_toArray, List.set_cons_zero, List.set_cons_succ])); (refine tk 2 22 rfl rfl (v := ?_) ?_ ?_; rotate_left 1; (focus (intro w hSw; (try dsimp only at hSw); go_simp; (try with_reducible rfl); done)); all_goals (try simp only [Act.put, List.setIfInBounds_toArray, List.set_cons_zero, List.set_cons_succ])); (refine tk 3 23 rfl rfl (v := ?_) ?_ ?_; rotate_left 1; (focus (intro w hSw; (try dsimp only at hSw); go_simp; (try with_reducible rfl); done)); all_goals (try simp only [Act.put, List.setIfInBounds_toArray, List.set_cons_zero, List.set_cons_succ])); (refine tk 4 24 rfl rfl (v := ?_) ?_ ?_; rotate_left 1; (focus (intro w hSw; (try dsimp only at hSw); go_simp; (try with_reducible rfl); done)); all_goals (try simp only [Act.put, List.setIfInBounds_toArray, List.set_cons_zero, List.set_cons_succ])); (refine tk 5 25 rfl rfl (v := ?_) ?_ ?_; rotate_left 1; (focus (intro w hSw; (try dsimp only at hSw); go_simp; (try with_reducible rfl); done)); all_goals (try simp only [Act.put, List.setIfInBounds_toArray, List.set_cons_zero, List.set_cons_succ])); (refine tk 6 26 rfl rfl (v := ?_) ?_ ?_; rotate_left 1; (focus (intro w hSw; (try dsimp only at hSw); go_simp; (try with_reducible rfl); done)); all_goals (try simp only [Act.put, List.setIfInBounds_toArray, List.set_cons_zero, List.set_cons_succ]))); (refine wpAnyH_ready (rs := [7]) (by kernel_rfl) (by simp) ?_; refine AllReadyH.cons rfl (fun K hK => ?_) AllReadyH.nil; go_simp; (go_at_call 110; refine (isOf_eq HO.out).mono ?_; rintro e w2 ⟨rfl, hb3⟩); refine hK.out _ _ (by exact Grow.both (by repeat (with_reducible first | exact Grow.refl _ | assumption | refine Grow.drew ?_ | refine Grow.alloc ?_ _ | refine Grow.set ?_ (by first | exact Nat.le_refl _ | (simp; done) | (simp; omega) | omega) _ | exact And.left (by assumption) | refine Grow.trans ?_ (by assumption)))) (fun hHeld => ?_); clear hK K; (try refine held_put 27 rfl ?_); (try simp only [Act.put, List.setIfInBounds_toArray, List.set_cons_zero, List.set_cons_succ])); ((refine tk 8 28 rfl rfl (v := ?_) ?_ ?_; rotate_left 1; (focus (intro w hSw; (try dsimp only at hSw); go_simp; (try with_reducible rfl); done)); all_goals (try simp only [Act.put, List.setIfInBounds_toArray, List.set_cons_zero, List.set_cons_succ]))); refine wpAnyH_done (by kernel_rfl) ?_ _)
          obtain ⟨gX, _⟩ : Grow V w2 ∧ Same V w2 := by assumption
          go_wp2
          go_ret
          exact ⟨ret_bool hf.out.symm, hg.trans (hG.trans (gV.trans gX))⟩
        | true =>
          have HO := Lib.hid (show ofB ⟨x.kind, x.n, x.s⟩ y.kind = true from hof)
          have hn := hall.succ hx.out (by rw [hp.out, hof])
          clear hof
          go_wp2_with fail
          generalize hV : World.alloc wr _ = V
          obtain ⟨gV, sV, kV⟩ := boxed1 hV
          clear hV
          have t1V := (gV.same _ _ hsr).trans t1
          have hsV := Nat.lt_of_lt_of_le hsr gV.size
          have d1V := (gV.same _ _ hb2).trans d1
          have hbV := Nat.lt_of_lt_of_le hb2 gV.size
          refine wp_region_held_drew (S := (fun w' => Grow V w' ∧ Same V w')) (by kernel_rfl) (by exact Grow.both (by repeat (with_reducible first | exact Grow.refl _ | assumption | refine Grow.drew ?_ | refine Grow.alloc ?_ _ | refine Grow.set ?_ (by first | exact Nat.le_refl _ | (simp; done) | (simp; omega) | omega) _ | exact And.left (by assumption) | refine Grow.trans ?_ (by assumption)))) (fun hHeld => ?_)
          (((refine tk 0 20 rfl rfl (v := ?_) ?_ ?_; rotate_left 1; (focus (intro w hSw; (try dsimp only at hSw); go_simp; (try with_reducible rfl); done)); all_goals (try simp only [Act.put, List.setIfInBounds_toArray, List.set_cons_zero, List.set_cons_succ])); (refine tk 1 21 rfl rfl (v := ?_) ?_ ?_; rotate_left 1; (focus (intro w hSw; (try dsimp only at hSw); go_simp; (try with_reducible rfl); done)); all_goals (try simp only [Act.put, List.setIfInBounds_toArray, List.set_cons_zero, List.set_cons_succ])); (refine tk 2 22 rfl rfl (v := ?_) ?_ ?_; rotate_left 1; (focus (intro w hSw; (try dsimp only at hSw); go_simp; (try with_reducible rfl); done)); all_goals (try simp only [Act.put, List.setIfInBounds_toArray, List.set_cons_zero, List.set_cons_succ])); (refine tk 3 23 rfl rfl (v := ?_) ?_ ?_; rotate_left 1; (focus (intro w hSw; (try dsimp only at hSw); go_simp; (try with_reducible rfl); done)); all_goals (try simp only [Act.put, List.setIfInBounds_toArray, List.set_cons_zero, List.set_cons_succ])); (refine tk 4 24 rfl rfl (v := ?_) ?_ ?_; rotate_left 1; (focus (intro w hSw; (try dsimp only at hSw); go_simp; (try with_reducible rfl); done)); all_goals (try simp only [Act.put, List.setIfInBounds_toArray, List.set_cons_zero, List.set_cons_succ])); (refine tk 5 25 rfl rfl (v := ?_) ?_ ?_; rotate_left 1; (focus (intro w hSw; (try dsimp only at hSw); go_simp; (try with_reducible rfl); done)); all_goals (try simp only [Act.put, List.setIfInBounds_toArray, List.set_cons_zero, List.set_cons_succ])); (refine tk 6 26 rfl rfl (v := ?_) ?_ ?_; rotate_left 1; (focus (intro w hSw; (try dsimp only at hSw); go_simp; (try with_reducible rfl); done)); all_goals (try simp only [Act.put, List.setIfInBounds_toArray, List.set_cons_zero, List.set_cons_succ]))); (refine wpAnyH_ready (rs := [7]) (by kernel_rfl) (by simp) ?_; refine AllReadyH.cons rfl (fun K hK => ?_) AllReadyH.nil; go_simp; (go_at_call 110; refine (isOf_eq HO.out).mono ?_; rintro e w2 ⟨rfl, hb3⟩); refine hK.out _ _ (by exact Grow.both (by repeat (with_reducible first | exact Grow.refl _ | assumption | refine Grow.drew ?_ | refine Grow.alloc ?_ _ | refine Grow.set ?_ (by first | exact Nat.le_refl _ | (simp; done) | (simp; omega) | omega) _ | exact And.left (by assumption) | refine Grow.trans ?_ (by assumption)))) (fun hHeld => ?_); clear hK K; (try refine held_put 27 rfl ?_); (try simp only [Act.put, List.setIfInBounds_toArray, List.set_cons_zero, List.set_cons_succ])); ((refine tk 8 28 rfl rfl (v := ?_) ?_ ?_; rotate_left 1; (focus (intro w hSw; (try dsimp only at hSw); go_simp; (try with_reducible rfl); done)); all_goals (try simp only [Act.put, List.setIfInBounds_toArray, List.set_cons_zero, List.set_cons_succ]))); refine wpAnyH_done (by kernel_rfl) ?_ _)
          obtain ⟨gX, _⟩ : Grow V w2 ∧ Same V w2 := by assumption
          go_wp2
          go_roundw
          case rel => exact ⟨k + 1, by omega, by go_num, hG.trans (gV.trans gX), hn⟩
          case measure => simp [intOf]; omega
      · have hf := Lib.hid (HG.out true (hall.done (by rw [HV.out]; omega)))
        go_wp2
        go_ret
        exact ⟨ret_bool hf.out.symm, hg.trans hG⟩
set_option maxHeartbeats 1000000 in
theorem hasNull_any (cs : List Value) (t : Table) {B : Option Addr} {lb cb : Nat} {vals : List Val} (w : World) (h : Kd.table.rd w (· < w.heap.size) cs t) (hv : IsSl Kd.val w (· < w.heap.size) B lb cb vals) (hl : vals.length = t.cols.length) :
    Calls Tryz.prog 79 #[.agg cs.toArray, .slice B lb cb] w (Ret w (.bool (!noNullB t.cols vals))) := by
  obtain ⟨Acols, Lcols, Ccols, Akey, Lkey, Ckey, Auniques, Luniques, Cuniques, Achecks, Lchecks, Cchecks, Afks, Lfks, Cfks, rfl, zname, scols, skey, suniques, schecks, sfks⟩ := h
  have hb1 : lb ≤ maxLen := Nat.le_trans hv.2.1 hv.2.2.1
  have HV := Lib.hid hv.1
  obtain rfl : lb = Lcols := by rw [← hv.1, hl, scols.1]
  unfold maxLen at hb1
  clear hl
  go_enter Tryz.func79, Tryz.ntmps79
  go_wp2_with fail
  generalize hW : World.alloc w _ = W
  obtain ⟨hg, hs', k1⟩ := boxed1 hW
  clear hW
  have hcur := Grow.refl W
  clear hcur
  go_loopw [9] (fun i wr => ∃ k : Nat, k ≤ lb ∧ i = .int .i64 k ∧ Grow W wr ∧ IxTo (noNullP t.cols) vals k) (fun i _ => lb - (intOf i).toNat)
  case atStart => exact ⟨0, Nat.zero_le _, rfl, Grow.refl _, IxTo.zero _ _⟩
  case round =>
    obtain ⟨k, hk, rfl, hG, hall⟩ := hrel
    by_cases hlt : k < lb
    · obtain ⟨b, off, x, rfl, hx, _, hb, zx, c0, c1, c2⟩ := val_at (hv.grow (hg.trans hG)) hlt
      obtain ⟨b2, off2, y, rfl, hy, _, hb2, zn, zd, d0, d1, d2, d3, d4, d5, hrd⟩ := col_at (scols.grow (hg.trans hG)) hlt
      have hp := Lib.hid (show noNullP t.cols k x = !(y.notNull && decide (x.kind = 0)) by simp [noNullP, hy.out])
      have i0 : (0 : Int) ≤ (k : Int) := Int.natCast_nonneg k
      have i1 : (k : Int) < (lb : Int) := Int.ofNat_lt.mpr hlt
      have t1 := (hG.same _ 1 hs').trans (k1 1)
      have hsr := Nat.lt_of_lt_of_le hs' hG.size
      cases hnn : y.notNull with
      | false =>
        have hn := hall.succ hx.out (by rw [hp.out, hnn]; rfl)
        rw [hnn] at d2
        clear hnn
        go_wp2_with fail
        go_roundw
        case rel => exact ⟨k + 1, by omega, by go_num, hG.trans (by repeat (with_reducible first | exact Grow.refl _ | assumption | refine Grow.drew ?_ | refine Grow.alloc ?_ _ | refine Grow.set ?_ (by first | exact Nat.le_refl _ | (simp; done) | (simp; omega) | omega) _ | exact And.left (by assumption) | refine Grow.trans ?_ (by assumption))), hn⟩
        case measure => simp [intOf]; omega
      | true =>
        rw [hnn] at d2
        by_cases hz : x.kind = 0
        · have hf := Lib.hid (show (!noNullB t.cols vals) = true by rw [noNullB, allIx_false hx.out (by rw [hp.out, hnn, hz]; rfl)]; rfl)
          have hzb : (x.kind == 0) = true := by simpa using hz
          clear hnn hz
          go_wp2_with fail
          go_ret
          exact ⟨ret_bool hf.out.symm, hg.trans (hG.trans (by repeat (with_reducible first | exact Grow.refl _ | assumption | refine Grow.drew ?_ | refine Grow.alloc ?_ _ | refine Grow.set ?_ (by first | exact Nat.le_refl _ | (simp; done) | (simp; omega) | omega) _ | exact And.left (by assumption) | refine Grow.trans ?_ (by assumption))))⟩
        · have hn := hall.succ hx.out (by rw [hp.out, hnn, decide_eq_false hz]; rfl)
          have hzb : (x.kind == 0) = false := by simpa using hz
          clear hnn hz
          go_wp2_with fail
          go_roundw
          case rel => exact ⟨k + 1, by omega, by go_num, hG.trans (by repeat (with_reducible first | exact Grow.refl _ | assumption | refine Grow.drew ?_ | refine Grow.alloc ?_ _ | refine Grow.set ?_ (by first | exact Nat.le_refl _ | (simp; done) | (simp; omega) | omega) _ | exact And.left (by assumption) | refine Grow.trans ?_ (by assumption))), hn⟩
          case measure => simp [intOf]; omega
    · have hf := Lib.hid (show (!noNullB t.cols vals) = false by rw [noNullB, hall.done (by rw [HV.out]; omega)]; rfl)
      go_wp2
      go_ret
      exact ⟨ret_bool hf.out.symm, hg.trans hG⟩
theorem enters_isChecked1 : Enters Tryz.prog 129 := ⟨fun a w => by go_simp⟩
theorem isChecked1_any (cs : List Value) (x : Check) (b : Nat) {B : Option Addr} {lb cb : Nat} {vals : List Val} (w : World) (h : Kd.check.rd w (· < w.heap.size) cs x) (hv : IsSl Kd.val w (· < w.heap.size) B lb cb vals) (hb : b < w.heap.size) (hc : w.cell? ⟨b, 0, none⟩ = some (.slice B lb cb)) :
    Calls Tryz.prog 129 #[.agg cs.toArray, .pointer (some ⟨b, 0, none⟩)] w (Ret w (.bool (chkV vals x))) := by
  obtain ⟨Ae, Le, Ce, rfl, se⟩ := h
  go_enter Tryz.func129, Tryz.ntmps129
  go_wp2_with fail
  generalize hW : World.alloc w _ = W
  obtain ⟨hg, hs', k1⟩ := boxed1 hW
  clear hW
  have hcur := Grow.refl W
  have hcc := hcur.same
  go_wp2_with (first | (go_at_call 130; (with_reducible refine (iTruth_any _ (se.grow (hg.trans hcur)) (hv.grow (hg.trans hcur))).mono ?_); rintro e w1 ⟨rfl, hb⟩; replace hcur := hcur.trans hb; replace hc := hcur.same; clear hb))
  go_ret
  exact ⟨ret_bool rfl, hg.trans hcur⟩
theorem isChecked_any (cs : List Value) (t : Table) {B : Option Addr} {lb cb : Nat} {vals : List Val} (w : World) (h : Kd.table.rd w (· < w.heap.size) cs t) (hv : IsSl Kd.val w (· < w.heap.size) B lb cb vals) :
    Calls Tryz.prog 80 #[.agg cs.toArray, .slice B lb cb] w (Ret w (.bool (checkedB t vals))) := by
  obtain ⟨Acols, Lcols, Ccols, Akey, Lkey, Ckey, Auniques, Luniques, Cuniques, Achecks, Lchecks, Cchecks, Afks, Lfks, Cfks, rfl, zname, scols, skey, suniques, schecks, sfks⟩ := h
  go_enter Tryz.func80, Tryz.ntmps80
  go_wp2_with fail
  generalize hW : World.alloc (World.alloc w _) _ = W
  obtain ⟨hg, hs, hs', k1, k2⟩ := boxed2 hW
  clear hW
  have hcur := Grow.refl W
  refine (containsFunc_check _ enters_isChecked1 _ _ (chkV vals) _ (schecks.grow hg) (fun cs u w' _ hw hrd => by simpa using isChecked1_any cs u _ w' hrd (hv.grow (hg.trans hw)) (Nat.lt_of_lt_of_le hs' hw.size) ((hw.same _ _ hs').trans (k2 0))) (r := t.checks.any (chkV vals)) rfl).mono ?_
  rintro e w1 ⟨rfl, hb⟩
  go_wp2
  go_ret
  exact ⟨ret_bool rfl, hg.trans hb⟩
set_option maxHeartbeats 1000000 in
theorem l4Kinds_any (cs : List Value) (t : Table) {B : Option Addr} {lb cb : Nat} {vals : List Val} (w : World) (h : Kd.table.rd w (· < w.heap.size) cs t) (hv : IsSl Kd.val w (· < w.heap.size) B lb cb vals) :
    Calls Tryz.prog 65 #[.agg cs.toArray, .slice B lb cb] w (Ret w (.bool (fitB t.cols vals))) := by
  obtain ⟨Acols, Lcols, Ccols, Akey, Lkey, Ckey, Auniques, Luniques, Cuniques, Achecks, Lchecks, Cchecks, Afks, Lfks, Cfks, rfl, zname, scols, skey, suniques, schecks, sfks⟩ := h
  have hb1 : lb ≤ maxLen := Nat.le_trans hv.2.1 hv.2.2.1
  have hc1 : Lcols ≤ maxLen := Nat.le_trans scols.2.1 scols.2.2.1
  have HV := Lib.hid hv.1
  have HC := Lib.hid scols.1
  unfold maxLen at hb1 hc1
  by_cases hl : lb = Lcols
  rotate_left
  · have hf := Lib.hid (fitB_len (cols := t.cols) (vals := vals) (by rw [HV.out, HC.out]; exact hl))
    have e1 : (lb == Lcols) = false := by simpa using hl
    have e2 : (lb != Lcols) = true := by simpa using hl
    go_enter Tryz.func65, Tryz.ntmps65
    go_wp2_with fail
    all_goals go_ret
    all_goals exact ⟨ret_bool hf.out.symm, (by repeat (with_reducible first | exact Grow.refl _ | assumption | refine Grow.drew ?_ | refine Grow.alloc ?_ _ | refine Grow.set ?_ (by first | exact Nat.le_refl _ | (simp; done) | (simp; omega) | omega) _ | exact And.left (by assumption) | refine Grow.trans ?_ (by assumption)))⟩
  · subst hl
    have hg2 := fun (r : Bool) => fitB_eq (cols := t.cols) (vals := vals) (r := r) (by rw [HV.out, HC.out])
    have HG := Lib.hid hg2
    clear hg2
    go_enter Tryz.func65, Tryz.ntmps65
    go_wp2_with fail
    generalize hW : World.alloc w _ = W
    obtain ⟨hg, hs', k1⟩ := boxed1 hW
    clear hW
    have hcur := Grow.refl W
    clear hcur
    go_loopw [5] (fun i wr => ∃ k : Nat, k ≤ lb ∧ i = .int .i64 k ∧ Grow W wr ∧ IxTo (fitP t.cols) vals k) (fun i _ => lb - (intOf i).toNat)
    case atStart => exact ⟨0, Nat.zero_le _, rfl, Grow.refl _, IxTo.zero _ _⟩
    case round =>
      obtain ⟨k, hk, rfl, hG, hall⟩ := hrel
      by_cases hlt : k < lb
      · obtain ⟨b, off, x, rfl, hx, _, hb, zx, c0, c1, c2⟩ := val_at (hv.grow (hg.trans hG)) hlt
        obtain ⟨b2, off2, y, rfl, hy, _, hb2, zn, zd, d0, d1, d2, d3, d4, d5, hrd⟩ := col_at (scols.grow (hg.trans hG)) hlt
        have hp := Lib.hid (show fitP t.cols k x = ofB x y.kind by simp [fitP, hy.out])
        have i0 : (0 : Int) ≤ (k : Int) := Int.natCast_nonneg k
        have i1 : (k : Int) < (lb : Int) := Int.ofNat_lt.mpr hlt
        have t1 := (hG.same _ 1 hs').trans (k1 1)
        have hsr := Nat.lt_of_lt_of_le hs' hG.size
        cases hok : okB x with
        | false =>
          have hf := Lib.hid (HG.out false (allIx_false hx.out (by rw [hp.out, ofB, hok, Bool.false_and])))
          have HO := Lib.hid (show okB ⟨x.kind, x.n, x.s⟩ = false from hok)
          clear hok
          go_wp2_with fail
          refine wp_region_held_drew (S := (fun w' => Grow wr w' ∧ Same wr w')) (by kernel_rfl) (by exact Grow.both (by repeat (with_reducible first | exact Grow.refl _ | assumption | refine Grow.drew ?_ | refine Grow.alloc ?_ _ | refine Grow.set ?_ (by first | exact Nat.le_refl _ | (simp; done) | (simp; omega) | omega) _ | exact And.left (by assumption) | refine Grow.trans ?_ (by assumption)))) (fun hHeld => ?_)
          (((refine tk 0 18 rfl rfl (v := ?_) ?_ ?_; rotate_left 1; (focus (intro w hSw; (try dsimp only at hSw); go_simp; (try with_reducible rfl); done)); all_goals (try simp only [Act.put, List.setIfInBounds_toArray, List.set_cons_zero, List.set_cons_succ])); (refine tk 1 19 rfl rfl (v := ?_) ?_ ?_; rotate_left 1; (focus (intro w hSw; (try dsimp only at hSw); go_simp; (try with_reducible rfl); done)); all_goals (try simp only [Act.put, List.setIfInBounds_toArray, List.set_cons_zero, List.set_cons_succ])); (refine tk 2 20 rfl rfl (v := ?_) ?_ ?_; rotate_left 1; (focus (intro w hSw; (try dsimp only at hSw); go_simp; (try with_reducible rfl); done)); all_goals (try simp only [Act.put, List.setIfInBounds_toArray, List.set_cons_zero, List.set_cons_succ])); (refine tk 3 21 rfl rfl (v := ?_) ?_ ?_; rotate_left 1; (focus (intro w hSw; (try dsimp only at hSw); go_simp; (try with_reducible rfl); done)); all_goals (try simp only [Act.put, List.setIfInBounds_toArray, List.set_cons_zero, List.set_cons_succ]))); (refine wpAnyH_ready (rs := [4]) (by kernel_rfl) (by simp) ?_; refine AllReadyH.cons rfl (fun K hK => ?_) AllReadyH.nil; go_simp; (go_at_call 116; refine (sValOk_eq HO.out _).mono ?_; rintro e w2 ⟨rfl, hb3⟩); refine hK.out _ _ (by exact Grow.both (by repeat (with_reducible first | exact Grow.refl _ | assumption | refine Grow.drew ?_ | refine Grow.alloc ?_ _ | refine Grow.set ?_ (by first | exact Nat.le_refl _ | (simp; done) | (simp; omega) | omega) _ | exact And.left (by assumption) | refine Grow.trans ?_ (by assumption)))) (fun hHeld => ?_); clear hK K; (try refine held_put 22 rfl ?_); (try simp only [Act.put, List.setIfInBounds_toArray, List.set_cons_zero, List.set_cons_succ])); ((refine tk 5 23 rfl rfl (v := ?_) ?_ ?_; rotate_left 1; (focus (intro w hSw; (try dsimp only at hSw); go_simp; (try with_reducible rfl); done)); all_goals (try simp only [Act.put, List.setIfInBounds_toArray, List.set_cons_zero, List.set_cons_succ])); (refine tk 6 24 rfl rfl (v := ?_) ?_ ?_; rotate_left 1; (focus (intro w hSw; (try dsimp only at hSw); go_simp; (try with_reducible rfl); done)); all_goals (try simp only [Act.put, List.setIfInBounds_toArray, List.set_cons_zero, List.set_cons_succ]))); (refine sk 7 25 rfl rfl ?_; (try simp only [Act.put, List.setIfInBounds_toArray, List.set_cons_zero, List.set_cons_succ]); refine sk 8 26 rfl rfl ?_; (try simp only [Act.put, List.setIfInBounds_toArray, List.set_cons_zero, List.set_cons_succ]); refine sk 9 27 rfl rfl ?_; (try simp only [Act.put, List.setIfInBounds_toArray, List.set_cons_zero, List.set_cons_succ]); refine sk 10 28 rfl rfl ?_; (try simp only [Act.put, List.setIfInBounds_toArray, List.set_cons_zero, List.set_cons_succ]); refine sk 11 29 rfl rfl ?_; (try simp only [Act.put, List.setIfInBounds_toArray, List.set_cons_zero, List.set_cons_succ]); refine sk 12 30 rfl rfl ?_; (try simp only [Act.put, List.setIfInBounds_toArray, List.set_cons_zero, List.set_cons_succ]); refine sk 13 31 rfl rfl ?_; (try simp only [Act.put, List.setIfInBounds_toArray, List.set_cons_zero, List.set_cons_succ]); refine sk 14 32 rfl rfl ?_; (try simp only [Act.put, List.setIfInBounds_toArray, List.set_cons_zero, List.set_cons_succ]); refine sk 15 33 rfl rfl ?_; (try simp only [Act.put, List.setIfInBounds_toArray, List.set_cons_zero, List.set_cons_succ]); refine sk 16 34 rfl rfl ?_; (try simp only [Act.put, List.setIfInBounds_toArray, List.set_cons_zero, List.set_cons_succ]); refine sk 17 35 rfl rfl ?_; (try simp only [Act.put, List.setIfInBounds_toArray, List.set_cons_zero, List.set_cons_succ]); refine sk 18 36 rfl rfl ?_; (try simp only [Act.put, List.setIfInBounds_toArray, List.set_cons_zero, List.set_cons_succ]); refine sk 19 37 rfl rfl ?_; (try simp only [Act.put, List.setIfInBounds_toArray, List.set_cons_zero, List.set_cons_succ]); refine sk 20 38 rfl rfl ?_; (try simp only [Act.put, List.setIfInBounds_toArray, List.set_cons_zero, List.set_cons_succ]); refine sk 21 39 rfl rfl ?_; (try simp only [Act.put, List.setIfInBounds_toArray, List.set_cons_zero, List.set_cons_succ]); refine sk 22 40 rfl rfl ?_; (try simp only [Act.put, List.setIfInBounds_toArray, List.set_cons_zero, List.set_cons_succ]); refine sk 23 41 rfl rfl ?_; (try simp only [Act.put, List.setIfInBounds_toArray, List.set_cons_zero, List.set_cons_succ]); refine sk 24 42 rfl rfl ?_; (try simp only [Act.put, List.setIfInBounds_toArray, List.set_cons_zero, List.set_cons_succ]); refine sk 25 43 rfl rfl ?_; (try simp only [Act.put, List.setIfInBounds_toArray, List.set_cons_zero, List.set_cons_succ]); refine sk 26 44 rfl rfl ?_; (try simp only [Act.put, List.setIfInBounds_toArray, List.set_cons_zero, List.set_cons_succ])); ((refine tk 27 45 rfl rfl (v := ?_) ?_ ?_; rotate_left 1; (focus (intro w hSw; (try dsimp only at hSw); go_simp; (try with_reducible rfl); done)); all_goals (try simp only [Act.put, List.setIfInBounds_toArray, List.set_cons_zero, List.set_cons_succ]))); refine wpAnyH_done (by kernel_rfl) ?_ _)
          obtain ⟨gX, _⟩ : Grow wr w2 ∧ Same wr w2 := by assumption
          go_wp2
          go_ret
          exact ⟨ret_bool hf.out.symm, hg.trans (hG.trans gX)⟩
        | true =>
          have HO := Lib.hid (show okB ⟨x.kind, x.n, x.s⟩ = true from hok)
          by_cases hz : x.kind = 0
          · have hn := hall.succ hx.out (by rw [hp.out, ofB, hok, hz]; rfl)
            have hzb : (x.kind != 0) = false := by simpa using hz
            clear hok hz
            go_wp2_with fail
            refine wp_region_held_drew (S := (fun w' => Grow wr w' ∧ Same wr w')) (by kernel_rfl) (by exact Grow.both (by repeat (with_reducible first | exact Grow.refl _ | assumption | refine Grow.drew ?_ | refine Grow.alloc ?_ _ | refine Grow.set ?_ (by first | exact Nat.le_refl _ | (simp; done) | (simp; omega) | omega) _ | exact And.left (by assumption) | refine Grow.trans ?_ (by assumption)))) (fun hHeld => ?_)
            (((refine tk 0 18 rfl rfl (v := ?_) ?_ ?_; rotate_left 1; (focus (intro w hSw; (try dsimp only at hSw); go_simp; (try with_reducible rfl); done)); all_goals (try simp only [Act.put, List.setIfInBounds_toArray, List.set_cons_zero, List.set_cons_succ])); (refine tk 1 19 rfl rfl (v := ?_) ?_ ?_; rotate_left 1; (focus (intro w hSw; (try dsimp only at hSw); go_simp; (try with_reducible rfl); done)); all_goals (try simp only [Act.put, List.setIfInBounds_toArray, List.set_cons_zero, List.set_cons_succ])); (refine tk 2 20 rfl rfl (v := ?_) ?_ ?_; rotate_left 1; (focus (intro w hSw; (try dsimp only at hSw); go_simp; (try with_reducible rfl); done)); all_goals (try simp only [Act.put, List.setIfInBounds_toArray, List.set_cons_zero, List.set_cons_succ])); (refine tk 3 21 rfl rfl (v := ?_) ?_ ?_; rotate_left 1; (focus (intro w hSw; (try dsimp only at hSw); go_simp; (try with_reducible rfl); done)); all_goals (try simp only [Act.put, List.setIfInBounds_toArray, List.set_cons_zero, List.set_cons_succ]))); (refine wpAnyH_ready (rs := [4]) (by kernel_rfl) (by simp) ?_; refine AllReadyH.cons rfl (fun K hK => ?_) AllReadyH.nil; go_simp; (go_at_call 116; refine (sValOk_eq HO.out _).mono ?_; rintro e w2 ⟨rfl, hb3⟩); refine hK.out _ _ (by exact Grow.both (by repeat (with_reducible first | exact Grow.refl _ | assumption | refine Grow.drew ?_ | refine Grow.alloc ?_ _ | refine Grow.set ?_ (by first | exact Nat.le_refl _ | (simp; done) | (simp; omega) | omega) _ | exact And.left (by assumption) | refine Grow.trans ?_ (by assumption)))) (fun hHeld => ?_); clear hK K; (try refine held_put 22 rfl ?_); (try simp only [Act.put, List.setIfInBounds_toArray, List.set_cons_zero, List.set_cons_succ])); ((refine tk 5 23 rfl rfl (v := ?_) ?_ ?_; rotate_left 1; (focus (intro w hSw; (try dsimp only at hSw); go_simp; (try with_reducible rfl); done)); all_goals (try simp only [Act.put, List.setIfInBounds_toArray, List.set_cons_zero, List.set_cons_succ])); (refine tk 6 24 rfl rfl (v := ?_) ?_ ?_; rotate_left 1; (focus (intro w hSw; (try dsimp only at hSw); go_simp; (try with_reducible rfl); done)); all_goals (try simp only [Act.put, List.setIfInBounds_toArray, List.set_cons_zero, List.set_cons_succ])); (refine tk 7 25 rfl rfl (v := ?_) ?_ ?_; rotate_left 1; (focus (intro w hSw; (try dsimp only at hSw); go_simp; (try with_reducible rfl); done)); all_goals (try simp only [Act.put, List.setIfInBounds_toArray, List.set_cons_zero, List.set_cons_succ])); (refine tk 8 26 rfl rfl (v := ?_) ?_ ?_; rotate_left 1; (focus (intro w hSw; (try dsimp only at hSw); go_simp; (try with_reducible rfl); done)); all_goals (try simp only [Act.put, List.setIfInBounds_toArray, List.set_cons_zero, List.set_cons_succ])); (refine tk 9 27 rfl rfl (v := ?_) ?_ ?_; rotate_left 1; (focus (intro w hSw; (try dsimp only at hSw); go_simp; (try with_reducible rfl); done)); all_goals (try simp only [Act.put, List.setIfInBounds_toArray, List.set_cons_zero, List.set_cons_succ])); (refine tk 10 28 rfl rfl (v := ?_) ?_ ?_; rotate_left 1; (focus (intro w hSw; (try dsimp only at hSw); go_simp; (try with_reducible rfl); done)); all_goals (try simp only [Act.put, List.setIfInBounds_toArray, List.set_cons_zero, List.set_cons_succ])); (refine tk 11 29 rfl rfl (v := ?_) ?_ ?_; rotate_left 1; (focus (intro w hSw; (try dsimp only at hSw); go_simp; (try with_reducible rfl); done)); all_goals (try simp only [Act.put, List.setIfInBounds_toArray, List.set_cons_zero, List.set_cons_succ])); (refine tk 12 30 rfl rfl (v := ?_) ?_ ?_; rotate_left 1; (focus (intro w hSw; (try dsimp only at hSw); go_simp; (try with_reducible rfl); done)); all_goals (try simp only [Act.put, List.setIfInBounds_toArray, List.set_cons_zero, List.set_cons_succ])); (refine tk 13 31 rfl rfl (v := ?_) ?_ ?_; rotate_left 1; (focus (intro w hSw; (try dsimp only at hSw); go_simp; (try with_reducible rfl); done)); all_goals (try simp only [Act.put, List.setIfInBounds_toArray, List.set_cons_zero, List.set_cons_succ]))); (refine sk 14 32 rfl rfl ?_; (try simp only [Act.put, List.setIfInBounds_toArray, List.set_cons_zero, List.set_cons_succ]); refine sk 15 33 rfl rfl ?_; (try simp only [Act.put, List.setIfInBounds_toArray, List.set_cons_zero, List.set_cons_succ]); refine sk 16 34 rfl rfl ?_; (try simp only [Act.put, List.setIfInBounds_toArray, List.set_cons_zero, List.set_cons_succ]); refine sk 17 35 rfl rfl ?_; (try simp only [Act.put, List.setIfInBounds_toArray, List.set_cons_zero, List.set_cons_succ]); refine sk 18 36 rfl rfl ?_; (try simp only [Act.put, List.setIfInBounds_toArray, List.set_cons_zero, List.set_cons_succ]); refine sk 19 37 rfl rfl ?_; (try simp only [Act.put, List.setIfInBounds_toArray, List.set_cons_zero, List.set_cons_succ]); refine sk 20 38 rfl rfl ?_; (try simp only [Act.put, List.setIfInBounds_toArray, List.set_cons_zero, List.set_cons_succ]); refine sk 21 39 rfl rfl ?_; (try simp only [Act.put, List.setIfInBounds_toArray, List.set_cons_zero, List.set_cons_succ]); refine sk 22 40 rfl rfl ?_; (try simp only [Act.put, List.setIfInBounds_toArray, List.set_cons_zero, List.set_cons_succ]); refine sk 23 41 rfl rfl ?_; (try simp only [Act.put, List.setIfInBounds_toArray, List.set_cons_zero, List.set_cons_succ]); refine sk 24 42 rfl rfl ?_; (try simp only [Act.put, List.setIfInBounds_toArray, List.set_cons_zero, List.set_cons_succ]); refine sk 25 43 rfl rfl ?_; (try simp only [Act.put, List.setIfInBounds_toArray, List.set_cons_zero, List.set_cons_succ])); ((refine tk 26 44 rfl rfl (v := ?_) ?_ ?_; rotate_left 1; (focus (intro w hSw; (try dsimp only at hSw); go_simp; (try with_reducible rfl); done)); all_goals (try simp only [Act.put, List.setIfInBounds_toArray, List.set_cons_zero, List.set_cons_succ])); (refine tk 27 45 rfl rfl (v := ?_) ?_ ?_; rotate_left 1; (focus (intro w hSw; (try dsimp only at hSw); go_simp; (try with_reducible rfl); done)); all_goals (try simp only [Act.put, List.setIfInBounds_toArray, List.set_cons_zero, List.set_cons_succ]))); refine wpAnyH_done (by kernel_rfl) ?_ _)
            obtain ⟨gX, _⟩ : Grow wr w2 ∧ Same wr w2 := by assumption
            go_wp2
            go_roundw
            case rel => exact ⟨k + 1, by omega, by go_num, hG.trans gX, hn⟩
            case measure => simp [intOf]; omega
          · have hzb : (x.kind != 0) = true := by simpa using hz
            by_cases hy2 : x.kind = y.kind
            · have hn := hall.succ hx.out (by rw [hp.out, ofB, hok, decide_eq_true hy2, Bool.or_true]; rfl)
              have hyb : (x.kind != y.kind) = false := by simpa using hy2
              clear hok hz hy2
              go_wp2_with fail
              refine wp_region_held_drew (S := (fun w' => Grow wr w' ∧ Same wr w')) (by kernel_rfl) (by exact Grow.both (by repeat (with_reducible first | exact Grow.refl _ | assumption | refine Grow.drew ?_ | refine Grow.alloc ?_ _ | refine Grow.set ?_ (by first | exact Nat.le_refl _ | (simp; done) | (simp; omega) | omega) _ | exact And.left (by assumption) | refine Grow.trans ?_ (by assumption)))) (fun hHeld => ?_)
              (((refine tk 0 18 rfl rfl (v := ?_) ?_ ?_; rotate_left 1; (focus (intro w hSw; (try dsimp only at hSw); go_simp; (try with_reducible rfl); done)); all_goals (try simp only [Act.put, List.setIfInBounds_toArray, List.set_cons_zero, List.set_cons_succ])); (refine tk 1 19 rfl rfl (v := ?_) ?_ ?_; rotate_left 1; (focus (intro w hSw; (try dsimp only at hSw); go_simp; (try with_reducible rfl); done)); all_goals (try simp only [Act.put, List.setIfInBounds_toArray, List.set_cons_zero, List.set_cons_succ])); (refine tk 2 20 rfl rfl (v := ?_) ?_ ?_; rotate_left 1; (focus (intro w hSw; (try dsimp only at hSw); go_simp; (try with_reducible rfl); done)); all_goals (try simp only [Act.put, List.setIfInBounds_toArray, List.set_cons_zero, List.set_cons_succ])); (refine tk 3 21 rfl rfl (v := ?_) ?_ ?_; rotate_left 1; (focus (intro w hSw; (try dsimp only at hSw); go_simp; (try with_reducible rfl); done)); all_goals (try simp only [Act.put, List.setIfInBounds_toArray, List.set_cons_zero, List.set_cons_succ]))); (refine wpAnyH_ready (rs := [4]) (by kernel_rfl) (by simp) ?_; refine AllReadyH.cons rfl (fun K hK => ?_) AllReadyH.nil; go_simp; (go_at_call 116; refine (sValOk_eq HO.out _).mono ?_; rintro e w2 ⟨rfl, hb3⟩); refine hK.out _ _ (by exact Grow.both (by repeat (with_reducible first | exact Grow.refl _ | assumption | refine Grow.drew ?_ | refine Grow.alloc ?_ _ | refine Grow.set ?_ (by first | exact Nat.le_refl _ | (simp; done) | (simp; omega) | omega) _ | exact And.left (by assumption) | refine Grow.trans ?_ (by assumption)))) (fun hHeld => ?_); clear hK K; (try refine held_put 22 rfl ?_); (try simp only [Act.put, List.setIfInBounds_toArray, List.set_cons_zero, List.set_cons_succ])); ((refine tk 5 23 rfl rfl (v := ?_) ?_ ?_; rotate_left 1; (focus (intro w hSw; (try dsimp only at hSw); go_simp; (try with_reducible rfl); done)); all_goals (try simp only [Act.put, List.setIfInBounds_toArray, List.set_cons_zero, List.set_cons_succ])); (refine tk 6 24 rfl rfl (v := ?_) ?_ ?_; rotate_left 1; (focus (intro w hSw; (try dsimp only at hSw); go_simp; (try with_reducible rfl); done)); all_goals (try simp only [Act.put, List.setIfInBounds_toArray, List.set_cons_zero, List.set_cons_succ])); (refine tk 7 25 rfl rfl (v := ?_) ?_ ?_; rotate_left 1; (focus (intro w hSw; (try dsimp only at hSw); go_simp; (try with_reducible rfl); done)); all_goals (try simp only [Act.put, List.setIfInBounds_toArray, List.set_cons_zero, List.set_cons_succ])); (refine tk 8 26 rfl rfl (v := ?_) ?_ ?_; rotate_left 1; (focus (intro w hSw; (try dsimp only at hSw); go_simp; (try with_reducible rfl); done)); all_goals (try simp only [Act.put, List.setIfInBounds_toArray, List.set_cons_zero, List.set_cons_succ])); (refine tk 9 27 rfl rfl (v := ?_) ?_ ?_; rotate_left 1; (focus (intro w hSw; (try dsimp only at hSw); go_simp; (try with_reducible rfl); done)); all_goals (try simp only [Act.put, List.setIfInBounds_toArray, List.set_cons_zero, List.set_cons_succ])); (refine tk 10 28 rfl rfl (v := ?_) ?_ ?_; rotate_left 1; (focus (intro w hSw; (try dsimp only at hSw); go_simp; (try with_reducible rfl); done)); all_goals (try simp only [Act.put, List.setIfInBounds_toArray, List.set_cons_zero, List.set_cons_succ])); (refine tk 11 29 rfl rfl (v := ?_) ?_ ?_; rotate_left 1; (focus (intro w hSw; (try dsimp only at hSw); go_simp; (try with_reducible rfl); done)); all_goals (try simp only [Act.put, List.setIfInBounds_toArray, List.set_cons_zero, List.set_cons_succ])); (refine tk 12 30 rfl rfl (v := ?_) ?_ ?_; rotate_left 1; (focus (intro w hSw; (try dsimp only at hSw); go_simp; (try with_reducible rfl); done)); all_goals (try simp only [Act.put, List.setIfInBounds_toArray, List.set_cons_zero, List.set_cons_succ])); (refine tk 13 31 rfl rfl (v := ?_) ?_ ?_; rotate_left 1; (focus (intro w hSw; (try dsimp only at hSw); go_simp; (try with_reducible rfl); done)); all_goals (try simp only [Act.put, List.setIfInBounds_toArray, List.set_cons_zero, List.set_cons_succ])); (refine tk 14 32 rfl rfl (v := ?_) ?_ ?_; rotate_left 1; (focus (intro w hSw; (try dsimp only at hSw); go_simp; (try with_reducible rfl); done)); all_goals (try simp only [Act.put, List.setIfInBounds_toArray, List.set_cons_zero, List.set_cons_succ])); (refine tk 15 33 rfl rfl (v := ?_) ?_ ?_; rotate_left 1; (focus (intro w hSw; (try dsimp only at hSw); go_simp; (try with_reducible rfl); done)); all_goals (try simp only [Act.put, List.setIfInBounds_toArray, List.set_cons_zero, List.set_cons_succ])); (refine tk 16 34 rfl rfl (v := ?_) ?_ ?_; rotate_left 1; (focus (intro w hSw; (try dsimp only at hSw); go_simp; (try with_reducible rfl); done)); all_goals (try simp only [Act.put, List.setIfInBounds_toArray, List.set_cons_zero, List.set_cons_succ])); (refine tk 17 35 rfl rfl (v := ?_) ?_ ?_; rotate_left 1; (focus (intro w hSw; (try dsimp only at hSw); go_simp; (try with_reducible rfl); done)); all_goals (try simp only [Act.put, List.setIfInBounds_toArray, List.set_cons_zero, List.set_cons_succ])); (refine tk 18 36 rfl rfl (v := ?_) ?_ ?_; rotate_left 1; (focus (intro w hSw; (try dsimp only at hSw); go_simp; (try with_reducible rfl); done)); all_goals (try simp only [Act.put, List.setIfInBounds_toArray, List.set_cons_zero, List.set_cons_succ])); (refine tk 19 37 rfl rfl (v := ?_) ?_ ?_; rotate_left 1; (focus (intro w hSw; (try dsimp only at hSw); go_simp; (try with_reducible rfl); done)); all_goals (try simp only [Act.put, List.setIfInBounds_toArray, List.set_cons_zero, List.set_cons_succ])); (refine tk 20 38 rfl rfl (v := ?_) ?_ ?_; rotate_left 1; (focus (intro w hSw; (try dsimp only at hSw); go_simp; (try with_reducible rfl); done)); all_goals (try simp only [Act.put, List.setIfInBounds_toArray, List.set_cons_zero, List.set_cons_succ])); (refine tk 21 39 rfl rfl (v := ?_) ?_ ?_; rotate_left 1; (focus (intro w hSw; (try dsimp only at hSw); go_simp; (try with_reducible rfl); done)); all_goals (try simp only [Act.put, List.setIfInBounds_toArray, List.set_cons_zero, List.set_cons_succ])); (refine tk 22 40 rfl rfl (v := ?_) ?_ ?_; rotate_left 1; (focus (intro w hSw; (try dsimp only at hSw); go_simp; (try with_reducible rfl); done)); all_goals (try simp only [Act.put, List.setIfInBounds_toArray, List.set_cons_zero, List.set_cons_succ])); (refine tk 23 41 rfl rfl (v := ?_) ?_ ?_; rotate_left 1; (focus (intro w hSw; (try dsimp only at hSw); go_simp; (try with_reducible rfl); done)); all_goals (try simp only [Act.put, List.setIfInBounds_toArray, List.set_cons_zero, List.set_cons_succ])); (refine tk 24 42 rfl rfl (v := ?_) ?_ ?_; rotate_left 1; (focus (intro w hSw; (try dsimp only at hSw); go_simp; (try with_reducible rfl); done)); all_goals (try simp only [Act.put, List.setIfInBounds_toArray, List.set_cons_zero, List.set_cons_succ])); (refine tk 25 43 rfl rfl (v := ?_) ?_ ?_; rotate_left 1; (focus (intro w hSw; (try dsimp only at hSw); go_simp; (try with_reducible rfl); done)); all_goals (try simp only [Act.put, List.setIfInBounds_toArray, List.set_cons_zero, List.set_cons_succ])); (refine tk 26 44 rfl rfl (v := ?_) ?_ ?_; rotate_left 1; (focus (intro w hSw; (try dsimp only at hSw); go_simp; (try with_reducible rfl); done)); all_goals (try simp only [Act.put, List.setIfInBounds_toArray, List.set_cons_zero, List.set_cons_succ])); (refine tk 27 45 rfl rfl (v := ?_) ?_ ?_; rotate_left 1; (focus (intro w hSw; (try dsimp only at hSw); go_simp; (try with_reducible rfl); done)); all_goals (try simp only [Act.put, List.setIfInBounds_toArray, List.set_cons_zero, List.set_cons_succ]))); refine wpAnyH_done (by kernel_rfl) ?_ _)
              obtain ⟨gX, _⟩ : Grow wr w2 ∧ Same wr w2 := by assumption
              go_wp2
              go_roundw
              case rel => exact ⟨k + 1, by omega, by go_num, hG.trans gX, hn⟩
              case measure => simp [intOf]; omega
            · have hf := Lib.hid (HG.out false (allIx_false hx.out (by rw [hp.out, ofB, hok, decide_eq_false hy2, decide_eq_false hz]; rfl)))
              have hyb : (x.kind != y.kind) = true := by simpa using hy2
              clear hok hz hy2
              go_wp2_with fail
              refine wp_region_held_drew (S := (fun w' => Grow wr w' ∧ Same wr w')) (by kernel_rfl) (by exact Grow.both (by repeat (with_reducible first | exact Grow.refl _ | assumption | refine Grow.drew ?_ | refine Grow.alloc ?_ _ | refine Grow.set ?_ (by first | exact Nat.le_refl _ | (simp; done) | (simp; omega) | omega) _ | exact And.left (by assumption) | refine Grow.trans ?_ (by assumption)))) (fun hHeld => ?_)
              (((refine tk 0 18 rfl rfl (v := ?_) ?_ ?_; rotate_left 1; (focus (intro w hSw; (try dsimp only at hSw); go_simp; (try with_reducible rfl); done)); all_goals (try simp only [Act.put, List.setIfInBounds_toArray, List.set_cons_zero, List.set_cons_succ])); (refine tk 1 19 rfl rfl (v := ?_) ?_ ?_; rotate_left 1; (focus (intro w hSw; (try dsimp only at hSw); go_simp; (try with_reducible rfl); done)); all_goals (try simp only [Act.put, List.setIfInBounds_toArray, List.set_cons_zero, List.set_cons_succ])); (refine tk 2 20 rfl rfl (v := ?_) ?_ ?_; rotate_left 1; (focus (intro w hSw; (try dsimp only at hSw); go_simp; (try with_reducible rfl); done)); all_goals (try simp only [Act.put, List.setIfInBounds_toArray, List.set_cons_zero, List.set_cons_succ])); (refine tk 3 21 rfl rfl (v := ?_) ?_ ?_; rotate_left 1; (focus (intro w hSw; (try dsimp only at hSw); go_simp; (try with_reducible rfl); done)); all_goals (try simp only [Act.put, List.setIfInBounds_toArray, List.set_cons_zero, List.set_cons_succ]))); (refine wpAnyH_ready (rs := [4]) (by kernel_rfl) (by simp) ?_; refine AllReadyH.cons rfl (fun K hK => ?_) AllReadyH.nil; go_simp; (go_at_call 116; refine (sValOk_eq HO.out _).mono ?_; rintro e w2 ⟨rfl, hb3⟩); refine hK.out _ _ (by exact Grow.both (by repeat (with_reducible first | exact Grow.refl _ | assumption | refine Grow.drew ?_ | refine Grow.alloc ?_ _ | refine Grow.set ?_ (by first | exact Nat.le_refl _ | (simp; done) | (simp; omega) | omega) _ | exact And.left (by assumption) | refine Grow.trans ?_ (by assumption)))) (fun hHeld => ?_); clear hK K; (try refine held_put 22 rfl ?_); (try simp only [Act.put, List.setIfInBounds_toArray, List.set_cons_zero, List.set_cons_succ])); ((refine tk 5 23 rfl rfl (v := ?_) ?_ ?_; rotate_left 1; (focus (intro w hSw; (try dsimp only at hSw); go_simp; (try with_reducible rfl); done)); all_goals (try simp only [Act.put, List.setIfInBounds_toArray, List.set_cons_zero, List.set_cons_succ])); (refine tk 6 24 rfl rfl (v := ?_) ?_ ?_; rotate_left 1; (focus (intro w hSw; (try dsimp only at hSw); go_simp; (try with_reducible rfl); done)); all_goals (try simp only [Act.put, List.setIfInBounds_toArray, List.set_cons_zero, List.set_cons_succ])); (refine tk 7 25 rfl rfl (v := ?_) ?_ ?_; rotate_left 1; (focus (intro w hSw; (try dsimp only at hSw); go_simp; (try with_reducible rfl); done)); all_goals (try simp only [Act.put, List.setIfInBounds_toArray, List.set_cons_zero, List.set_cons_succ])); (refine tk 8 26 rfl rfl (v := ?_) ?_ ?_; rotate_left 1; (focus (intro w hSw; (try dsimp only at hSw); go_simp; (try with_reducible rfl); done)); all_goals (try simp only [Act.put, List.setIfInBounds_toArray, List.set_cons_zero, List.set_cons_succ])); (refine tk 9 27 rfl rfl (v := ?_) ?_ ?_; rotate_left 1; (focus (intro w hSw; (try dsimp only at hSw); go_simp; (try with_reducible rfl); done)); all_goals (try simp only [Act.put, List.setIfInBounds_toArray, List.set_cons_zero, List.set_cons_succ])); (refine tk 10 28 rfl rfl (v := ?_) ?_ ?_; rotate_left 1; (focus (intro w hSw; (try dsimp only at hSw); go_simp; (try with_reducible rfl); done)); all_goals (try simp only [Act.put, List.setIfInBounds_toArray, List.set_cons_zero, List.set_cons_succ])); (refine tk 11 29 rfl rfl (v := ?_) ?_ ?_; rotate_left 1; (focus (intro w hSw; (try dsimp only at hSw); go_simp; (try with_reducible rfl); done)); all_goals (try simp only [Act.put, List.setIfInBounds_toArray, List.set_cons_zero, List.set_cons_succ])); (refine tk 12 30 rfl rfl (v := ?_) ?_ ?_; rotate_left 1; (focus (intro w hSw; (try dsimp only at hSw); go_simp; (try with_reducible rfl); done)); all_goals (try simp only [Act.put, List.setIfInBounds_toArray, List.set_cons_zero, List.set_cons_succ])); (refine tk 13 31 rfl rfl (v := ?_) ?_ ?_; rotate_left 1; (focus (intro w hSw; (try dsimp only at hSw); go_simp; (try with_reducible rfl); done)); all_goals (try simp only [Act.put, List.setIfInBounds_toArray, List.set_cons_zero, List.set_cons_succ])); (refine tk 14 32 rfl rfl (v := ?_) ?_ ?_; rotate_left 1; (focus (intro w hSw; (try dsimp only at hSw); go_simp; (try with_reducible rfl); done)); all_goals (try simp only [Act.put, List.setIfInBounds_toArray, List.set_cons_zero, List.set_cons_succ])); (refine tk 15 33 rfl rfl (v := ?_) ?_ ?_; rotate_left 1; (focus (intro w hSw; (try dsimp only at hSw); go_simp; (try with_reducible rfl); done)); all_goals (try simp only [Act.put, List.setIfInBounds_toArray, List.set_cons_zero, List.set_cons_succ])); (refine tk 16 34 rfl rfl (v := ?_) ?_ ?_; rotate_left 1; (focus (intro w hSw; (try dsimp only at hSw); go_simp; (try with_reducible rfl); done)); all_goals (try simp only [Act.put, List.setIfInBounds_toArray, List.set_cons_zero, List.set_cons_succ])); (refine tk 17 35 rfl rfl (v := ?_) ?_ ?_; rotate_left 1; (focus (intro w hSw; (try dsimp only at hSw); go_simp; (try with_reducible rfl); done)); all_goals (try simp only [Act.put, List.setIfInBounds_toArray, List.set_cons_zero, List.set_cons_succ])); (refine tk 18 36 rfl rfl (v := ?_) ?_ ?_; rotate_left 1; (focus (intro w hSw; (try dsimp only at hSw); go_simp; (try with_reducible rfl); done)); all_goals (try simp only [Act.put, List.setIfInBounds_toArray, List.set_cons_zero, List.set_cons_succ])); (refine tk 19 37 rfl rfl (v := ?_) ?_ ?_; rotate_left 1; (focus (intro w hSw; (try dsimp only at hSw); go_simp; (try with_reducible rfl); done)); all_goals (try simp only [Act.put, List.setIfInBounds_toArray, List.set_cons_zero, List.set_cons_succ])); (refine tk 20 38 rfl rfl (v := ?_) ?_ ?_; rotate_left 1; (focus (intro w hSw; (try dsimp only at hSw); go_simp; (try with_reducible rfl); done)); all_goals (try simp only [Act.put, List.setIfInBounds_toArray, List.set_cons_zero, List.set_cons_succ])); (refine tk 21 39 rfl rfl (v := ?_) ?_ ?_; rotate_left 1; (focus (intro w hSw; (try dsimp only at hSw); go_simp; (try with_reducible rfl); done)); all_goals (try simp only [Act.put, List.setIfInBounds_toArray, List.set_cons_zero, List.set_cons_succ])); (refine tk 22 40 rfl rfl (v := ?_) ?_ ?_; rotate_left 1; (focus (intro w hSw; (try dsimp only at hSw); go_simp; (try with_reducible rfl); done)); all_goals (try simp only [Act.put, List.setIfInBounds_toArray, List.set_cons_zero, List.set_cons_succ])); (refine tk 23 41 rfl rfl (v := ?_) ?_ ?_; rotate_left 1; (focus (intro w hSw; (try dsimp only at hSw); go_simp; (try with_reducible rfl); done)); all_goals (try simp only [Act.put, List.setIfInBounds_toArray, List.set_cons_zero, List.set_cons_succ])); (refine tk 24 42 rfl rfl (v := ?_) ?_ ?_; rotate_left 1; (focus (intro w hSw; (try dsimp only at hSw); go_simp; (try with_reducible rfl); done)); all_goals (try simp only [Act.put, List.setIfInBounds_toArray, List.set_cons_zero, List.set_cons_succ])); (refine tk 25 43 rfl rfl (v := ?_) ?_ ?_; rotate_left 1; (focus (intro w hSw; (try dsimp only at hSw); go_simp; (try with_reducible rfl); done)); all_goals (try simp only [Act.put, List.setIfInBounds_toArray, List.set_cons_zero, List.set_cons_succ])); (refine tk 26 44 rfl rfl (v := ?_) ?_ ?_; rotate_left 1; (focus (intro w hSw; (try dsimp only at hSw); go_simp; (try with_reducible rfl); done)); all_goals (try simp only [Act.put, List.setIfInBounds_toArray, List.set_cons_zero, List.set_cons_succ])); (refine tk 27 45 rfl rfl (v := ?_) ?_ ?_; rotate_left 1; (focus (intro w hSw; (try dsimp only at hSw); go_simp; (try with_reducible rfl); done)); all_goals (try simp only [Act.put, List.setIfInBounds_toArray, List.set_cons_zero, List.set_cons_succ]))); refine wpAnyH_done (by kernel_rfl) ?_ _)
              obtain ⟨gX, _⟩ : Grow wr w2 ∧ Same wr w2 := by assumption
              go_wp2
              go_ret
              exact ⟨ret_bool hf.out.symm, hg.trans (hG.trans gX)⟩
      · have hf := Lib.hid (HG.out true (hall.done (by rw [HV.out]; omega)))
        go_wp2
        go_ret
        exact ⟨ret_bool hf.out.symm, hg.trans hG⟩
set_option maxHeartbeats 1000000 in
theorem l4Nulls_any (cs : List Value) (t : Table) {B : Option Addr} {lb cb : Nat} {vals : List Val} (w : World) (h : Kd.table.rd w (· < w.heap.size) cs t) (hv : IsSl Kd.val w (· < w.heap.size) B lb cb vals) (hl : vals.length = t.cols.length) :
    Calls Tryz.prog 85 #[.agg cs.toArray, .slice B lb cb] w (Ret w (.bool (noNullB t.cols vals))) := by
  obtain ⟨Acols, Lcols, Ccols, Akey, Lkey, Ckey, Auniques, Luniques, Cuniques, Achecks, Lchecks, Cchecks, Afks, Lfks, Cfks, rfl, zname, scols, skey, suniques, schecks, sfks⟩ := h
  have hb1 : lb ≤ maxLen := Nat.le_trans hv.2.1 hv.2.2.1
  have HV := Lib.hid hv.1
  obtain rfl : lb = Lcols := by rw [← hv.1, hl, scols.1]
  unfold maxLen at hb1
  clear hl
  go_enter Tryz.func85, Tryz.ntmps85
  go_wp2_with fail
  generalize hW : World.alloc w _ = W
  obtain ⟨hg, hs', k1⟩ := boxed1 hW
  clear hW
  have hcur := Grow.refl W
  clear hcur
  go_loopw [5] (fun i wr => ∃ k : Nat, k ≤ lb ∧ i = .int .i64 k ∧ Grow W wr ∧ IxTo (noNullP t.cols) vals k) (fun i _ => lb - (intOf i).toNat)
  case atStart => exact ⟨0, Nat.zero_le _, rfl, Grow.refl _, IxTo.zero _ _⟩
  case round =>
    obtain ⟨k, hk, rfl, hG, hall⟩ := hrel
    by_cases hlt : k < lb
    · obtain ⟨b, off, x, rfl, hx, _, hb, zx, c0, c1, c2⟩ := val_at (hv.grow (hg.trans hG)) hlt
      obtain ⟨b2, off2, y, rfl, hy, _, hb2, zn, zd, d0, d1, d2, d3, d4, d5, hrd⟩ := col_at (scols.grow (hg.trans hG)) hlt
      have hp := Lib.hid (show noNullP t.cols k x = !(y.notNull && decide (x.kind = 0)) by simp [noNullP, hy.out])
      have i0 : (0 : Int) ≤ (k : Int) := Int.natCast_nonneg k
      have i1 : (k : Int) < (lb : Int) := Int.ofNat_lt.mpr hlt
      have t1 := (hG.same _ 1 hs').trans (k1 1)
      have hsr := Nat.lt_of_lt_of_le hs' hG.size
      cases hnn : y.notNull with
      | false =>
        have hn := hall.succ hx.out (by rw [hp.out, hnn]; rfl)
        rw [hnn] at d2
        clear hnn
        go_wp2_with fail
        go_roundw
        case rel => exact ⟨k + 1, by omega, by go_num, hG.trans (by repeat (with_reducible first | exact Grow.refl _ | assumption | refine Grow.drew ?_ | refine Grow.alloc ?_ _ | refine Grow.set ?_ (by first | exact Nat.le_refl _ | (simp; done) | (simp; omega) | omega) _ | exact And.left (by assumption) | refine Grow.trans ?_ (by assumption))), hn⟩
        case measure => simp [intOf]; omega
      | true =>
        rw [hnn] at d2
        by_cases hz : x.kind = 0
        · have hf := Lib.hid (show noNullB t.cols vals = false by rw [noNullB, allIx_false hx.out (by rw [hp.out, hnn, hz]; rfl)])
          have hzb : (x.kind == 0) = true := by simpa using hz
          clear hnn hz
          go_wp2_with fail
          go_ret
          exact ⟨ret_bool hf.out.symm, hg.trans (hG.trans (by repeat (with_reducible first | exact Grow.refl _ | assumption | refine Grow.drew ?_ | refine Grow.alloc ?_ _ | refine Grow.set ?_ (by first | exact Nat.le_refl _ | (simp; done) | (simp; omega) | omega) _ | exact And.left (by assumption) | refine Grow.trans ?_ (by assumption))))⟩
        · have hn := hall.succ hx.out (by rw [hp.out, hnn, decide_eq_false hz]; rfl)
          have hzb : (x.kind == 0) = false := by simpa using hz
          clear hnn hz
          go_wp2_with fail
          go_roundw
          case rel => exact ⟨k + 1, by omega, by go_num, hG.trans (by repeat (with_reducible first | exact Grow.refl _ | assumption | refine Grow.drew ?_ | refine Grow.alloc ?_ _ | refine Grow.set ?_ (by first | exact Nat.le_refl _ | (simp; done) | (simp; omega) | omega) _ | exact And.left (by assumption) | refine Grow.trans ?_ (by assumption))), hn⟩
          case measure => simp [intOf]; omega
    · have hf := Lib.hid (show noNullB t.cols vals = true by rw [noNullB, hall.done (by rw [HV.out]; omega)])
      go_wp2
      go_ret
      exact ⟨ret_bool hf.out.symm, hg.trans hG⟩
theorem l2Truth_eq {A B : Option Addr} {la ca lb cb : Nat} {e : List Tok} {row : List Val} {a : Int} (ha : trL e row = a) (w : World) (he : IsSl Kd.tok w (· < w.heap.size) A la ca e) (hr : IsSl Kd.val w (· < w.heap.size) B lb cb row)
    (ho : okVals row = true) (hxl : exprL lb e = true) : Calls Tryz.prog 137 #[.slice A la ca, .slice B lb cb] w (Ret w (.int .i64 a)) := by
  subst ha; exact l2Truth_any w he hr ho hxl
set_option maxHeartbeats 1000000 in
theorem l4Checks_any (cs : List Value) (t : Table) {B : Option Addr} {lb cb : Nat} {vals : List Val} (w : World) (h : Kd.table.rd w (· < w.heap.size) cs t) (hv : IsSl Kd.val w (· < w.heap.size) B lb cb vals) (hok : okVals vals = true) (hex : ∀ c ∈ t.checks, exprL vals.length c.expr = true) :
    Calls Tryz.prog 86 #[.agg cs.toArray, .slice B lb cb] w (Ret w (.bool (checkedB t vals))) := by
  obtain ⟨Acols, Lcols, Ccols, Akey, Lkey, Ckey, Auniques, Luniques, Cuniques, Achecks, Lchecks, Cchecks, Afks, Lfks, Cfks, rfl, zname, scols, skey, suniques, schecks, sfks⟩ := h
  have hc1 : Lchecks ≤ maxLen := Nat.le_trans schecks.2.1 schecks.2.2.1
  have HV := Lib.hid hv.1
  have HC := Lib.hid schecks.1
  have HOK := Lib.hid hok
  have HEX := Lib.hid hex
  unfold maxLen at hc1
  clear hok hex
  go_enter Tryz.func86, Tryz.ntmps86
  go_wp2_with fail
  generalize hW : World.alloc w _ = W
  obtain ⟨hg, hs', k1⟩ := boxed1 hW
  clear hW
  have hcur := Grow.refl W
  clear hcur
  go_loopw [5] (fun i wr => ∃ k : Nat, k ≤ Lchecks ∧ i = .int .i64 k ∧ Grow W wr ∧ NoneTo (chkV vals) t.checks k) (fun i _ => Lchecks - (intOf i).toNat)
  case atStart => exact ⟨0, Nat.zero_le _, rfl, Grow.refl _, NoneTo.zero _ _⟩
  case round =>
    obtain ⟨k, hk, rfl, hG, hall⟩ := hrel
    have t4 := (hG.same _ 4 hs').trans (k1 4)
    have hsr := Nat.lt_of_lt_of_le hs' hG.size
    by_cases hlt : k < Lchecks
    · obtain ⟨b, off, x, Ae, Le, Ce, rfl, hx, _, hb, c0, se, hrd⟩ := check_at (schecks.grow (hg.trans hG)) hlt
      have i0 : (0 : Int) ≤ (k : Int) := Int.natCast_nonneg k
      have i1 : (k : Int) < (Lchecks : Int) := Int.ofNat_lt.mpr hlt
      obtain ⟨a, ha⟩ : ∃ a, trL x.expr vals = a := ⟨_, rfl⟩
      have HA := Lib.hid ha
      have HXL := Lib.hid (HEX.out x (mem_of_at hx.out))
      have hcv : chkV vals x = decide (a < 1) := by rw [chkV, ha]
      rw [HV.out] at HXL
      clear ha
      go_wp2_with fail
      refine (l2Truth_eq HA.out _ se (hv.grow (hg.trans hG)) HOK.out HXL.out).mono ?_
      rintro e1 w1 ⟨rfl, hb1⟩
      by_cases h0 : a = 0
      · have hf := Lib.hid (show checkedB t vals = false by rw [checkedB, List.any_eq_true.mpr ⟨x, mem_of_at hx.out, by rw [hcv, h0]; rfl⟩]; rfl)
        subst h0
        clear hcv
        go_wp2
        go_ret
        exact ⟨ret_bool hf.out.symm, hg.trans (hG.trans hb1)⟩
      · have e0 : (a == 0) = false := by simpa using h0
        by_cases h1 : a < 0
        · have hf := Lib.hid (show checkedB t vals = false by rw [checkedB, List.any_eq_true.mpr ⟨x, mem_of_at hx.out, by rw [hcv]; exact decide_eq_true (by omega)⟩]; rfl)
          clear hcv h0
          go_wp2
          go_ret
          exact ⟨ret_bool hf.out.symm, hg.trans (hG.trans hb1)⟩
        · have hn := hall.succ hx.out (by rw [hcv]; exact decide_eq_false (by omega))
          clear hcv h0
          go_wp2
          go_roundw
          case rel => exact ⟨k + 1, by omega, by go_num, hG.trans hb1, hn⟩
          case measure => simp [intOf]; omega
    · have hf := Lib.hid (show checkedB t vals = true by rw [checkedB, any_none hall (by rw [HC.out]; omega)]; rfl)
      go_wp2
      go_ret
      exact ⟨ret_bool hf.out.symm, hg.trans hG⟩
end Go.Proofs.YtjeilgogjoidjaaGreat
