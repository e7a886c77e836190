import Derived.Test.YtjeilgogjoidjaaGreatDbRows
import Derived.Test.YtjeilgogjoidjaaGreatRefers
import Derived.Test.YtjeilgogjoidjaaGreatApp
/-! What is found by some columns. -/
namespace Go.Proofs.YtjeilgogjoidjaaGreat
open Go.RowKit
set_option linter.unusedVariables false
set_option linter.unusedSimpArgs false
theorem nodup_len : ∀ (n : Nat) (l : List Int), (∀ c ∈ l, 0 ≤ c ∧ c < (n : Int)) → l.Nodup → l.length ≤ n
  | 0, l, h, _ => by
    cases l with
    | nil => exact Nat.le_refl _
    | cons a l => have := h a (by simp); omega
  | n + 1, l, h, hn => by
    by_cases hm : (n : Int) ∈ l
    · have h1 := nodup_len n (l.erase (n : Int)) (fun c hc => by
        have h2 := (List.Nodup.mem_erase_iff hn).mp hc
        have h3 := h c h2.2
        have : c ≠ (n : Int) := h2.1
        omega) (hn.erase _)
      rw [List.length_erase_of_mem hm] at h1
      omega
    · have := nodup_len n l (fun c hc => by
        have h3 := h c hc
        have : c ≠ (n : Int) := fun e => hm (e ▸ hc)
        omega) hn
      omega
theorem colsB_nodup {l : List Int} {n : Int} (h : colsB l n = true) : l.Nodup := by
  simp only [colsB, Bool.and_eq_true] at h
  rw [List.nodup_iff_pairwise_ne, List.pairwise_iff_getElem]
  intro i j hi hj hij e
  have := allIx_at h.2 (List.getElem?_eq_getElem hj)
  simp only [colP, Bool.and_eq_true, Bool.not_eq_true'] at this
  have hc := this.2
  rw [Bool.eq_false_iff] at hc
  apply hc
  rw [List.contains_iff_mem]
  exact List.mem_iff_getElem.mpr ⟨i, by rw [List.length_take]; omega, by rw [List.getElem_take]; exact e⟩
theorem colsB_len {l : List Int} {n : Nat} (h : colsB l n = true) : l.length ≤ n :=
  nodup_len n l (fun c hc => colsB_mem h hc) (colsB_nodup h)
theorem sameV_len {a b : List Val} (h : a.length ≠ b.length) : sameV a b = false := by simp [sameV, h]
theorem sameV_eq {a b : List Val} {r : Bool} (h : a.length = b.length) (hr : allIx (sameP b) a = r) : sameV a b = r := by simp [sameV, h, hr]
theorem foundV_yes {rows : List Row} {cols : List Int} {key : List Val} {k : Nat} {x : Row} (hx : rows[k]? = some x) (h : hasB cols x.vals key = true) : foundV (rows.take (k + 1)) cols key = foundV (rows.take k) cols key ++ [x.id] := by
  unfold foundV
  rw [take_snoc hx, List.filter_append, List.map_append]
  simp [h]
theorem foundV_no {rows : List Row} {cols : List Int} {key : List Val} {k : Nat} {x : Row} (hx : rows[k]? = some x) (h : hasB cols x.vals key = false) : foundV (rows.take (k + 1)) cols key = foundV (rows.take k) cols key := by
  unfold foundV
  rw [take_snoc hx, List.filter_append, List.map_append]
  simp [h]
theorem hasB_unknown {cols : List Int} {vals key : List Val} (h : knownV cols vals = false) : hasB cols vals key = false := by rw [hasB, h]; rfl
theorem hasB_known {cols : List Int} {vals key : List Val} (h : knownV cols vals = true) : hasB cols vals key = sameV (keyV cols vals) key := by rw [hasB, h]; rfl
/-- The columns lie within the values. -/
def InCols (cols : List Int) (n : Nat) : Prop := ∀ c ∈ cols, 0 ≤ c ∧ c < (n : Int)
theorem neq_ite {α : Type} (x y : Val) (A B : α) : (if x.kind = y.kind then if x.n = y.n then if x.s.toList = y.s.toList then A else B else B else B) = if eqV x y then A else B := by
  by_cases h1 : x.kind = y.kind <;> by_cases h2 : x.n = y.n <;> by_cases h3 : x.s.toList = y.s.toList <;> simp [eqV, h1, h2, h3]
theorem equalVals_any {A B : Option Addr} {la ca lb cb : Nat} {a b : List Val} (w : World) (ha : IsSl Kd.val w (· < w.heap.size) A la ca a) (hb : IsSl Kd.val w (· < w.heap.size) B lb cb b) :
    Calls Tryz.prog 124 #[.slice A la ca, .slice B lb cb] w (Ret w (.bool (sameV a b))) := by
  have ha1 : la ≤ maxLen := Nat.le_trans ha.2.1 ha.2.2.1
  have hb1 : lb ≤ maxLen := Nat.le_trans hb.2.1 hb.2.2.1
  have HA := Lib.hid ha.1
  have HB := Lib.hid hb.1
  unfold maxLen at ha1 hb1
  by_cases hl : la = lb
  rotate_left
  · have hf := Lib.hid (sameV_len (a := a) (b := b) (by rw [HA.out, HB.out]; exact hl))
    have e1 : (la == lb) = false := by simpa using hl
    have e2 : (la != lb) = true := by simpa using hl
    go_enter Tryz.func124, Tryz.ntmps124
    go_wp2
    all_goals go_ret
    all_goals exact ⟨ret_bool hf.out.symm, Grow.refl _⟩
  · subst hl
    have HG := Lib.hid (fun (r : Bool) => sameV_eq (a := a) (b := b) (r := r) (by rw [HA.out, HB.out]))
    go_enter Tryz.func124, Tryz.ntmps124
    go_wp2
    go_loopw [13] (fun i wr => ∃ k : Nat, k ≤ la ∧ i = .int .i64 k ∧ Grow w wr ∧ IxTo (sameP b) a k) (fun i _ => la - (intOf i).toNat)
    case atStart => exact ⟨0, Nat.zero_le _, rfl, Grow.refl _, IxTo.zero _ _⟩
    case round =>
      obtain ⟨k, hk, rfl, hG, hall⟩ := hrel
      by_cases hlt : k < la
      · obtain ⟨b1, off1, x, rfl, hx, _, hp1, zx, c0, c1, c2⟩ := val_at (ha.grow hG) hlt
        obtain ⟨b2, off2, y, rfl, hy, _, hp2, zy, d0, d1, d2⟩ := val_at (hb.grow hG) hlt
        have hp := Lib.hid (show sameP b k x = eqV x y by simp [sameP, hy.out])
        have i0 : (0 : Int) ≤ (k : Int) := Int.natCast_nonneg k
        have i1 : (k : Int) < (la : Int) := Int.ofNat_lt.mpr hlt
        cases hq : eqV x y with
        | false =>
          have HQ := Lib.hid hq
          have hf := Lib.hid (HG.out false (allIx_false hx.out (by rw [hp.out, hq])))
          clear hq
          go_wp2_with fail
          refine wp_region_held_drew (S := (fun w' => Grow wr w' ∧ Same wr w')) (by kernel_rfl) (by exact Grow.both (by repeat (with_reducible first | exact Grow.refl _ | assumption | refine Grow.drew ?_ | refine Grow.alloc ?_ _ | refine Grow.set ?_ (by first | exact Nat.le_refl _ | (simp; done) | (simp; omega) | omega) _ | exact And.left (by assumption) | refine Grow.trans ?_ (by assumption)))) (fun hHeld => ?_)
          ((refine tk 0 16 rfl rfl (v := ?_) ?_ ?_; rotate_left 1; (focus (intro w hSw; (try dsimp only at hSw); go_simp; (try with_reducible rfl); done)); all_goals (try simp only [Act.put, List.setIfInBounds_toArray, List.set_cons_zero, List.set_cons_succ])); (refine tk 1 17 rfl rfl (v := ?_) ?_ ?_; rotate_left 1; (focus (intro w hSw; (try dsimp only at hSw); go_simp; (try with_reducible rfl); done)); all_goals (try simp only [Act.put, List.setIfInBounds_toArray, List.set_cons_zero, List.set_cons_succ])); (refine tk 2 18 rfl rfl (v := ?_) ?_ ?_; rotate_left 1; (focus (intro w hSw; (try dsimp only at hSw); go_simp; (try with_reducible rfl); done)); all_goals (try simp only [Act.put, List.setIfInBounds_toArray, List.set_cons_zero, List.set_cons_succ])); (refine tk 3 19 rfl rfl (v := ?_) ?_ ?_; rotate_left 1; (focus (intro w hSw; (try dsimp only at hSw); go_simp; (try with_reducible rfl); done)); all_goals (try simp only [Act.put, List.setIfInBounds_toArray, List.set_cons_zero, List.set_cons_succ])); (refine tk 4 20 rfl rfl (v := ?_) ?_ ?_; rotate_left 1; (focus (intro w hSw; (try dsimp only at hSw); go_simp; (try with_reducible rfl); done)); all_goals (try simp only [Act.put, List.setIfInBounds_toArray, List.set_cons_zero, List.set_cons_succ])); (refine tk 5 21 rfl rfl (v := ?_) ?_ ?_; rotate_left 1; (focus (intro w hSw; (try dsimp only at hSw); go_simp; (try with_reducible rfl); done)); all_goals (try simp only [Act.put, List.setIfInBounds_toArray, List.set_cons_zero, List.set_cons_succ])); (refine tk 6 22 rfl rfl (v := ?_) ?_ ?_; rotate_left 1; (focus (intro w hSw; (try dsimp only at hSw); go_simp; (try with_reducible rfl); done)); all_goals (try simp only [Act.put, List.setIfInBounds_toArray, List.set_cons_zero, List.set_cons_succ])); (refine tk 7 23 rfl rfl (v := ?_) ?_ ?_; rotate_left 1; (focus (intro w hSw; (try dsimp only at hSw); go_simp; (try with_reducible rfl); done)); all_goals (try simp only [Act.put, List.setIfInBounds_toArray, List.set_cons_zero, List.set_cons_succ])))
          (refine held_take (i := 8) 24 (v := .bool true) rfl rfl (by kernel_rfl) (by kernel_rfl) (by kernel_rfl) (fun _ _ _ h => h) (by kernel_rfl) ?_ (by assumption) ?_; (focus (intro w hSw; (try dsimp only at hSw); go_simp; (have hq := HQ.out; intro h1 h2 h3; simp [eqV, h1, h2, h3] at hq))); all_goals (try simp only [Act.put, List.setIfInBounds_toArray, List.set_cons_zero, List.set_cons_succ]))
          refine wpAnyH_done (by kernel_rfl) ?_ _
          go_wp2
          go_ret
          exact ⟨ret_bool hf.out.symm, hG.drew⟩
        | true =>
          have HQ := Lib.hid hq
          have hn := hall.succ hx.out (by rw [hp.out, hq])
          clear hq
          go_wp2_with fail
          refine wp_region_held_drew (S := (fun w' => Grow wr w' ∧ Same wr w')) (by kernel_rfl) (by exact Grow.both (by repeat (with_reducible first | exact Grow.refl _ | assumption | refine Grow.drew ?_ | refine Grow.alloc ?_ _ | refine Grow.set ?_ (by first | exact Nat.le_refl _ | (simp; done) | (simp; omega) | omega) _ | exact And.left (by assumption) | refine Grow.trans ?_ (by assumption)))) (fun hHeld => ?_)
          ((refine tk 0 16 rfl rfl (v := ?_) ?_ ?_; rotate_left 1; (focus (intro w hSw; (try dsimp only at hSw); go_simp; (try with_reducible rfl); done)); all_goals (try simp only [Act.put, List.setIfInBounds_toArray, List.set_cons_zero, List.set_cons_succ])); (refine tk 1 17 rfl rfl (v := ?_) ?_ ?_; rotate_left 1; (focus (intro w hSw; (try dsimp only at hSw); go_simp; (try with_reducible rfl); done)); all_goals (try simp only [Act.put, List.setIfInBounds_toArray, List.set_cons_zero, List.set_cons_succ])); (refine tk 2 18 rfl rfl (v := ?_) ?_ ?_; rotate_left 1; (focus (intro w hSw; (try dsimp only at hSw); go_simp; (try with_reducible rfl); done)); all_goals (try simp only [Act.put, List.setIfInBounds_toArray, List.set_cons_zero, List.set_cons_succ])); (refine tk 3 19 rfl rfl (v := ?_) ?_ ?_; rotate_left 1; (focus (intro w hSw; (try dsimp only at hSw); go_simp; (try with_reducible rfl); done)); all_goals (try simp only [Act.put, List.setIfInBounds_toArray, List.set_cons_zero, List.set_cons_succ])); (refine tk 4 20 rfl rfl (v := ?_) ?_ ?_; rotate_left 1; (focus (intro w hSw; (try dsimp only at hSw); go_simp; (try with_reducible rfl); done)); all_goals (try simp only [Act.put, List.setIfInBounds_toArray, List.set_cons_zero, List.set_cons_succ])); (refine tk 5 21 rfl rfl (v := ?_) ?_ ?_; rotate_left 1; (focus (intro w hSw; (try dsimp only at hSw); go_simp; (try with_reducible rfl); done)); all_goals (try simp only [Act.put, List.setIfInBounds_toArray, List.set_cons_zero, List.set_cons_succ])); (refine tk 6 22 rfl rfl (v := ?_) ?_ ?_; rotate_left 1; (focus (intro w hSw; (try dsimp only at hSw); go_simp; (try with_reducible rfl); done)); all_goals (try simp only [Act.put, List.setIfInBounds_toArray, List.set_cons_zero, List.set_cons_succ])); (refine tk 7 23 rfl rfl (v := ?_) ?_ ?_; rotate_left 1; (focus (intro w hSw; (try dsimp only at hSw); go_simp; (try with_reducible rfl); done)); all_goals (try simp only [Act.put, List.setIfInBounds_toArray, List.set_cons_zero, List.set_cons_succ])))
          (refine held_take (i := 8) 24 (v := .bool false) rfl rfl (by kernel_rfl) (by kernel_rfl) (by kernel_rfl) (fun _ _ _ h => h) (by kernel_rfl) ?_ (by assumption) ?_; (focus (intro w hSw; (try dsimp only at hSw); go_simp; (rw [neq_ite, HQ.out]; rfl))); all_goals (try simp only [Act.put, List.setIfInBounds_toArray, List.set_cons_zero, List.set_cons_succ]))
          refine wpAnyH_done (by kernel_rfl) ?_ _
          go_wp2
          go_roundw
          case rel => exact ⟨k + 1, by omega, by go_num, hG.drew, hn⟩
          case measure => simp [intOf]; omega
      · have hf := Lib.hid (HG.out true (hall.done (by rw [HA.out]; omega)))
        go_wp2
        go_ret
        exact ⟨ret_bool hf.out.symm, hG⟩
theorem l1SameVals_any {A B : Option Addr} {la ca lb cb : Nat} {a b : List Val} (w : World) (ha : IsSl Kd.val w (· < w.heap.size) A la ca a) (hb : IsSl Kd.val w (· < w.heap.size) B lb cb b) :
    Calls Tryz.prog 125 #[.slice A la ca, .slice B lb cb] w (Ret w (.bool (sameV a b))) := by
  have ha1 : la ≤ maxLen := Nat.le_trans ha.2.1 ha.2.2.1
  have hb1 : lb ≤ maxLen := Nat.le_trans hb.2.1 hb.2.2.1
  have HA := Lib.hid ha.1
  have HB := Lib.hid hb.1
  unfold maxLen at ha1 hb1
  by_cases hl : la = lb
  rotate_left
  · have hf := Lib.hid (sameV_len (a := a) (b := b) (by rw [HA.out, HB.out]; exact hl))
    have e1 : (la == lb) = false := by simpa using hl
    have e2 : (la != lb) = true := by simpa using hl
    go_enter Tryz.func125, Tryz.ntmps125
    go_wp2
    all_goals go_ret
    all_goals exact ⟨ret_bool hf.out.symm, Grow.refl _⟩
  · subst hl
    have HG := Lib.hid (fun (r : Bool) => sameV_eq (a := a) (b := b) (r := r) (by rw [HA.out, HB.out]))
    go_enter Tryz.func125, Tryz.ntmps125
    go_wp2
    go_loopw [5] (fun i wr => ∃ k : Nat, k ≤ la ∧ i = .int .i64 k ∧ Grow w wr ∧ IxTo (sameP b) a k) (fun i _ => la - (intOf i).toNat)
    case atStart => exact ⟨0, Nat.zero_le _, rfl, Grow.refl _, IxTo.zero _ _⟩
    case round =>
      obtain ⟨k, hk, rfl, hG, hall⟩ := hrel
      by_cases hlt : k < la
      · obtain ⟨b1, off1, x, rfl, hx, _, hp1, zx, c0, c1, c2⟩ := val_at (ha.grow hG) hlt
        obtain ⟨b2, off2, y, rfl, hy, _, hp2, zy, d0, d1, d2⟩ := val_at (hb.grow hG) hlt
        have hp := Lib.hid (show sameP b k x = eqV x y by simp [sameP, hy.out])
        have i0 : (0 : Int) ≤ (k : Int) := Int.natCast_nonneg k
        have i1 : (k : Int) < (la : Int) := Int.ofNat_lt.mpr hlt
        cases hq : eqV x y with
        | false =>
          have HQ := Lib.hid hq
          have hf := Lib.hid (HG.out false (allIx_false hx.out (by rw [hp.out, hq])))
          clear hq
          go_wp2_with fail
          refine wp_region_held_drew (S := (fun w' => Grow wr w' ∧ Same wr w')) (by kernel_rfl) (by exact Grow.both (by repeat (with_reducible first | exact Grow.refl _ | assumption | refine Grow.drew ?_ | refine Grow.alloc ?_ _ | refine Grow.set ?_ (by first | exact Nat.le_refl _ | (simp; done) | (simp; omega) | omega) _ | exact And.left (by assumption) | refine Grow.trans ?_ (by assumption)))) (fun hHeld => ?_)
          ((refine tk 0 17 rfl rfl (v := ?_) ?_ ?_; rotate_left 1; (focus (intro w hSw; (try dsimp only at hSw); go_simp; (try with_reducible rfl); done)); all_goals (try simp only [Act.put, List.setIfInBounds_toArray, List.set_cons_zero, List.set_cons_succ])); (refine tk 1 18 rfl rfl (v := ?_) ?_ ?_; rotate_left 1; (focus (intro w hSw; (try dsimp only at hSw); go_simp; (try with_reducible rfl); done)); all_goals (try simp only [Act.put, List.setIfInBounds_toArray, List.set_cons_zero, List.set_cons_succ])); (refine tk 2 19 rfl rfl (v := ?_) ?_ ?_; rotate_left 1; (focus (intro w hSw; (try dsimp only at hSw); go_simp; (try with_reducible rfl); done)); all_goals (try simp only [Act.put, List.setIfInBounds_toArray, List.set_cons_zero, List.set_cons_succ])); (refine tk 3 20 rfl rfl (v := ?_) ?_ ?_; rotate_left 1; (focus (intro w hSw; (try dsimp only at hSw); go_simp; (try with_reducible rfl); done)); all_goals (try simp only [Act.put, List.setIfInBounds_toArray, List.set_cons_zero, List.set_cons_succ])); (refine tk 4 21 rfl rfl (v := ?_) ?_ ?_; rotate_left 1; (focus (intro w hSw; (try dsimp only at hSw); go_simp; (try with_reducible rfl); done)); all_goals (try simp only [Act.put, List.setIfInBounds_toArray, List.set_cons_zero, List.set_cons_succ])); (refine tk 5 22 rfl rfl (v := ?_) ?_ ?_; rotate_left 1; (focus (intro w hSw; (try dsimp only at hSw); go_simp; (try with_reducible rfl); done)); all_goals (try simp only [Act.put, List.setIfInBounds_toArray, List.set_cons_zero, List.set_cons_succ])); (refine tk 6 23 rfl rfl (v := ?_) ?_ ?_; rotate_left 1; (focus (intro w hSw; (try dsimp only at hSw); go_simp; (try with_reducible rfl); done)); all_goals (try simp only [Act.put, List.setIfInBounds_toArray, List.set_cons_zero, List.set_cons_succ])); (refine tk 7 24 rfl rfl (v := ?_) ?_ ?_; rotate_left 1; (focus (intro w hSw; (try dsimp only at hSw); go_simp; (try with_reducible rfl); done)); all_goals (try simp only [Act.put, List.setIfInBounds_toArray, List.set_cons_zero, List.set_cons_succ])))
          (refine held_take (i := 8) 25 (v := .bool true) rfl rfl (by kernel_rfl) (by kernel_rfl) (by kernel_rfl) (fun _ _ _ h => h) (by kernel_rfl) ?_ (by assumption) ?_; (focus (intro w hSw; (try dsimp only at hSw); go_simp; (have hq := HQ.out; intro h1 h2 h3; simp [eqV, h1, h2, h3] at hq))); all_goals (try simp only [Act.put, List.setIfInBounds_toArray, List.set_cons_zero, List.set_cons_succ]))
          refine wpAnyH_done (by kernel_rfl) ?_ _
          go_wp2
          go_ret
          exact ⟨ret_bool hf.out.symm, hG.drew⟩
        | true =>
          have HQ := Lib.hid hq
          have hn := hall.succ hx.out (by rw [hp.out, hq])
          clear hq
          go_wp2_with fail
          refine wp_region_held_drew (S := (fun w' => Grow wr w' ∧ Same wr w')) (by kernel_rfl) (by exact Grow.both (by repeat (with_reducible first | exact Grow.refl _ | assumption | refine Grow.drew ?_ | refine Grow.alloc ?_ _ | refine Grow.set ?_ (by first | exact Nat.le_refl _ | (simp; done) | (simp; omega) | omega) _ | exact And.left (by assumption) | refine Grow.trans ?_ (by assumption)))) (fun hHeld => ?_)
          ((refine tk 0 17 rfl rfl (v := ?_) ?_ ?_; rotate_left 1; (focus (intro w hSw; (try dsimp only at hSw); go_simp; (try with_reducible rfl); done)); all_goals (try simp only [Act.put, List.setIfInBounds_toArray, List.set_cons_zero, List.set_cons_succ])); (refine tk 1 18 rfl rfl (v := ?_) ?_ ?_; rotate_left 1; (focus (intro w hSw; (try dsimp only at hSw); go_simp; (try with_reducible rfl); done)); all_goals (try simp only [Act.put, List.setIfInBounds_toArray, List.set_cons_zero, List.set_cons_succ])); (refine tk 2 19 rfl rfl (v := ?_) ?_ ?_; rotate_left 1; (focus (intro w hSw; (try dsimp only at hSw); go_simp; (try with_reducible rfl); done)); all_goals (try simp only [Act.put, List.setIfInBounds_toArray, List.set_cons_zero, List.set_cons_succ])); (refine tk 3 20 rfl rfl (v := ?_) ?_ ?_; rotate_left 1; (focus (intro w hSw; (try dsimp only at hSw); go_simp; (try with_reducible rfl); done)); all_goals (try simp only [Act.put, List.setIfInBounds_toArray, List.set_cons_zero, List.set_cons_succ])); (refine tk 4 21 rfl rfl (v := ?_) ?_ ?_; rotate_left 1; (focus (intro w hSw; (try dsimp only at hSw); go_simp; (try with_reducible rfl); done)); all_goals (try simp only [Act.put, List.setIfInBounds_toArray, List.set_cons_zero, List.set_cons_succ])); (refine tk 5 22 rfl rfl (v := ?_) ?_ ?_; rotate_left 1; (focus (intro w hSw; (try dsimp only at hSw); go_simp; (try with_reducible rfl); done)); all_goals (try simp only [Act.put, List.setIfInBounds_toArray, List.set_cons_zero, List.set_cons_succ])); (refine tk 6 23 rfl rfl (v := ?_) ?_ ?_; rotate_left 1; (focus (intro w hSw; (try dsimp only at hSw); go_simp; (try with_reducible rfl); done)); all_goals (try simp only [Act.put, List.setIfInBounds_toArray, List.set_cons_zero, List.set_cons_succ])); (refine tk 7 24 rfl rfl (v := ?_) ?_ ?_; rotate_left 1; (focus (intro w hSw; (try dsimp only at hSw); go_simp; (try with_reducible rfl); done)); all_goals (try simp only [Act.put, List.setIfInBounds_toArray, List.set_cons_zero, List.set_cons_succ])))
          (refine held_take (i := 8) 25 (v := .bool false) rfl rfl (by kernel_rfl) (by kernel_rfl) (by kernel_rfl) (fun _ _ _ h => h) (by kernel_rfl) ?_ (by assumption) ?_; (focus (intro w hSw; (try dsimp only at hSw); go_simp; (rw [neq_ite, HQ.out]; rfl))); all_goals (try simp only [Act.put, List.setIfInBounds_toArray, List.set_cons_zero, List.set_cons_succ]))
          refine wpAnyH_done (by kernel_rfl) ?_ _
          go_wp2
          go_roundw
          case rel => exact ⟨k + 1, by omega, by go_num, hG.drew, hn⟩
          case measure => simp [intOf]; omega
      · have hf := Lib.hid (HG.out true (hall.done (by rw [HA.out]; omega)))
        go_wp2
        go_ret
        exact ⟨ret_bool hf.out.symm, hG⟩
theorem ikeyOf_eq {A B : Option Addr} {la ca lb cb : Nat} {cols : List Int} {vals : List Val} {r : Bool} (hr : knownV cols vals = r) (w : World) (h : IsSl Kd.int w (· < w.heap.size) A la ca cols) (hv : IsSl Kd.val w (· < w.heap.size) B lb cb vals) (hl : la ≤ 1048576)
    (hin : ∀ c ∈ cols, 0 ≤ c ∧ c < (lb : Int)) : Calls Tryz.prog 58 #[.slice A la ca, .slice B lb cb] w (fun e w' => ∃ A len cap, e = .returned (.tuple #[.slice A len cap, .bool r]) ∧ IsSl Kd.val w' (Fresh w.heap.size w') A len cap (keyV cols vals) ∧ Grow w w') := by
  subst hr; exact ikeyOf_any w h hv hl hin
theorem equalVals_eq {A B : Option Addr} {la ca lb cb : Nat} {a b : List Val} {r : Bool} (hr : sameV a b = r) (w : World) (ha : IsSl Kd.val w (· < w.heap.size) A la ca a) (hb : IsSl Kd.val w (· < w.heap.size) B lb cb b) :
    Calls Tryz.prog 124 #[.slice A la ca, .slice B lb cb] w (Ret w (.bool r)) := by
  subst hr; exact equalVals_any w ha hb
theorem has_any {A B C : Option Addr} {la ca lb cb lc cc : Nat} {cols : List Int} {vals key : List Val} (w : World) (h : IsSl Kd.int w (· < w.heap.size) A la ca cols) (hv : IsSl Kd.val w (· < w.heap.size) B lb cb vals) (hk : IsSl Kd.val w (· < w.heap.size) C lc cc key) (hl : la ≤ 1048576)
    (hin : InCols cols lb) : Calls Tryz.prog 107 #[.slice A la ca, .slice B lb cb, .slice C lc cc] w (Ret w (.bool (hasB cols vals key))) := by
  have HI := Lib.hid hin
  clear hin
  cases hkn : knownV cols vals with
  | false =>
    have hf := Lib.hid (hasB_unknown (key := key) hkn)
    have HK := Lib.hid hkn
    clear hkn
    go_enter Tryz.func107, Tryz.ntmps107
    go_wp2_with fail
    refine (ikeyOf_eq HK.out _ h hv hl HI.out).mono ?_
    rintro e w1 ⟨A1, l1, c1, rfl, k1, g1⟩
    go_wp2
    go_ret
    exact ⟨ret_bool hf.out.symm, g1⟩
  | true =>
    have hf := Lib.hid (hasB_known (key := key) hkn)
    have HK := Lib.hid hkn
    clear hkn
    go_enter Tryz.func107, Tryz.ntmps107
    go_wp2_with fail
    refine (ikeyOf_eq HK.out _ h hv hl HI.out).mono ?_
    rintro e w1 ⟨A1, l1, c1, rfl, k1, g1⟩
    go_wp2_with fail
    refine (equalVals_any _ k1.fresh (hk.grow g1)).mono ?_
    rintro e w2 ⟨rfl, g2⟩
    go_wp2
    go_ret
    exact ⟨ret_bool hf.out.symm, g1.trans g2⟩
theorem has_eq {A B C : Option Addr} {la ca lb cb lc cc : Nat} {cols : List Int} {vals key : List Val} {r : Bool} (hr : hasB cols vals key = r) (w : World) (h : IsSl Kd.int w (· < w.heap.size) A la ca cols) (hv : IsSl Kd.val w (· < w.heap.size) B lb cb vals) (hk : IsSl Kd.val w (· < w.heap.size) C lc cc key) (hl : la ≤ 1048576)
    (hin : InCols cols lb) : Calls Tryz.prog 107 #[.slice A la ca, .slice B lb cb, .slice C lc cc] w (Ret w (.bool r)) := by
  subst hr; exact has_any w h hv hk hl hin
set_option maxHeartbeats 2000000 in
theorem found_any {A B C : Option Addr} {la ca lb cb lc cc : Nat} {rows : List Row} {cols : List Int} {key : List Val} (w : World) (hr : IsSl Kd.row w (· < w.heap.size) A la ca rows) (h : IsSl Kd.int w (· < w.heap.size) B lb cb cols) (hk : IsSl Kd.val w (· < w.heap.size) C lc cc key)
    (hl : lb ≤ 1048576) (hla : la ≤ 1048576) (hin : ∀ r ∈ rows, InCols cols r.vals.length) : Calls Tryz.prog 60 #[.slice A la ca, .slice B lb cb, .slice C lc cc] w (IntsRes (foundV rows cols key) w) := by
  have HR := Lib.hid hr.1
  have HI := Lib.hid hin
  clear hin
  go_enter Tryz.func60, Tryz.ntmps60
  go_wp2
  go_loopw [7, 13] (fun sv i wr => ∃ (k n c : Nat) (Q : Option Addr), k ≤ la ∧ i = .int .i64 k ∧ sv = .slice Q n c ∧ n ≤ k ∧ OwnF Kd.int 2 w wr Q n c (foundV (rows.take k) cols key)) (fun _ i _ => la - (intOf i).toNat)
  case atStart => exact ⟨0, 0, 0, _, Nat.zero_le _, rfl, rfl, Nat.le_refl _, OwnF.made (Grow.refl _)⟩
  case round =>
    obtain ⟨k, n, c, Q, hk0, rfl, rfl, hnk, own⟩ := hrel
    have hG := own.grows
    by_cases hlt : k < la
    · obtain ⟨b, off, x, Av, Lv, Cv, rfl, hx, _, hb, c0, c1, sv, hrd1⟩ := row_at (hr.grow hG) hlt
      have hic : InCols cols Lv := by rw [← sv.1]; exact HI.out x (mem_of_at hx.out)
      have HIC := Lib.hid hic
      clear hic
      go_wp2_with fail
      generalize hV : World.alloc wr _ = V
      obtain ⟨gV, sV, bV⟩ := boxedB hV
      obtain ⟨kV, fV⟩ := free_of bV
      clear hV
      cases hh : hasB cols x.vals key with
      | false =>
        have hn := Lib.hid (foundV_no hx.out hh)
        have HH := Lib.hid hh
        clear hh
        refine (has_eq HH.out _ (h.grow (hG.trans gV)) (sv.grow gV) (hk.grow (hG.trans gV)) hl HIC.out).mono ?_
        rintro e w2 ⟨rfl, g2⟩
        go_wp2
        go_roundw
        case rel => exact ⟨k + 1, n, c, Q, by omega, by go_num, rfl, by omega, by rw [hn.out]; exact own.grow (gV.trans g2)⟩
        case measure => simp [intOf]; omega
      | true =>
        have hn := Lib.hid (foundV_yes hx.out hh)
        have HH := Lib.hid hh
        clear hh
        refine (has_eq HH.out _ (h.grow (hG.trans gV)) (sv.grow gV) (hk.grow (hG.trans gV)) hl HIC.out).mono ?_
        rintro e w2 ⟨rfl, g2⟩
        have own2 := own.grow (gV.trans g2)
        have hc2 := g2.same
        go_wp2_with (at_builtin; refine wpList_app plain_int ones_int elem_int rfl (.tmp 22) (.tmp 25) (by rfl) (by rfl) (own2.grow ((Grow.refl _).alloc _)) (by rfl) (isSl_one (by decide) (new_block _ _) rfl) (q := n + 1) rfl (by unfold maxLen; omega) (by omega) (fun A3 c3 w3 ap3 => ?_))
        go_roundw
        case rel => exact ⟨k + 1, n + 1, c3, A3, by omega, by go_num, rfl, by omega, by rw [hn.out]; exact ap3.own⟩
        case measure => simp [intOf]; omega
    · obtain rfl : k = la := by omega
      have own2 := own
      rw [List.take_of_length_le (by rw [HR.out]; exact Nat.le_refl _)] at own2
      go_wp2
      go_ret
      exact ⟨_, _, _, rfl, own2.isSl, hG⟩
theorem l4Key_eq {A B : Option Addr} {la ca lb cb : Nat} {cols : List Int} {vals : List Val} {r : Bool} (hr : knownV cols vals = r) (w : World) (h : IsSl Kd.int w (· < w.heap.size) A la ca cols) (hv : IsSl Kd.val w (· < w.heap.size) B lb cb vals) (hl : la ≤ 1048576)
    (hin : ∀ c ∈ cols, 0 ≤ c ∧ c < (lb : Int)) : Calls Tryz.prog 100 #[.slice A la ca, .slice B lb cb] w (fun e w' => ∃ A len cap, e = .returned (.tuple #[.slice A len cap, .bool r]) ∧ IsSl Kd.val w' (Fresh w.heap.size w') A len cap (keyV cols vals) ∧ Grow w w') := by
  subst hr; exact l4Key_any w h hv hl hin
theorem l1SameVals_eq {A B : Option Addr} {la ca lb cb : Nat} {a b : List Val} {r : Bool} (hr : sameV a b = r) (w : World) (ha : IsSl Kd.val w (· < w.heap.size) A la ca a) (hb : IsSl Kd.val w (· < w.heap.size) B lb cb b) :
    Calls Tryz.prog 125 #[.slice A la ca, .slice B lb cb] w (Ret w (.bool r)) := by
  subst hr; exact l1SameVals_any w ha hb
set_option maxHeartbeats 2000000 in
theorem l4Find_any {A B C : Option Addr} {la ca lb cb lc cc : Nat} {rows : List Row} {cols : List Int} {key : List Val} (w : World) (hr : IsSl Kd.row w (· < w.heap.size) A la ca rows) (h : IsSl Kd.int w (· < w.heap.size) B lb cb cols) (hk : IsSl Kd.val w (· < w.heap.size) C lc cc key)
    (hl : lb ≤ 1048576) (hla : la ≤ 1048576) (hin : ∀ r ∈ rows, InCols cols r.vals.length) : Calls Tryz.prog 166 #[.agg #[.slice A la ca], .slice B lb cb, .slice C lc cc] w (IntsRes (foundV rows cols key) w) := by
  have HR := Lib.hid hr.1
  have HI := Lib.hid hin
  clear hin
  go_enter Tryz.func166, Tryz.ntmps166
  go_wp2_with fail
  generalize hW : World.alloc w _ = W
  obtain ⟨hg, hs', k1⟩ := boxed1 hW
  have hsz := Lib.hid (show W.heap.size = w.heap.size + 1 by rw [← hW]; simp)
  clear hW
  go_loopw [7, 8] (fun sv i wr => ∃ (k n c : Nat) (Q : Option Addr), k ≤ la ∧ i = .int .i64 k ∧ sv = .slice Q n c ∧ n ≤ k ∧ OwnF Kd.int 2 W wr Q n c (foundV (rows.take k) cols key)) (fun _ i _ => la - (intOf i).toNat)
  case atStart => exact ⟨0, 0, 0, _, Nat.zero_le _, rfl, rfl, Nat.le_refl _, (by have h := OwnF.made (k := Kd.int) (E := 2) (Grow.refl W); rw [hsz.out] at h; exact h)⟩
  case round =>
    obtain ⟨k, n, c, Q, hk0, rfl, rfl, hnk, own⟩ := hrel
    have hG := own.grows
    have t0 := (hG.same _ 0 hs').trans (k1 0)
    have hsr := Nat.lt_of_lt_of_le hs' hG.size
    by_cases hlt : k < la
    · obtain ⟨b, off, x, Av, Lv, Cv, rfl, hx, _, hb, c0, c1, sv, hrd1⟩ := row_at (hr.grow (hg.trans hG)) hlt
      have hic : InCols cols Lv := by rw [← sv.1]; exact HI.out x (mem_of_at hx.out)
      have HIC := Lib.hid hic
      have i0 : (0 : Int) ≤ (k : Int) := Int.natCast_nonneg k
      have i1 : (k : Int) < (la : Int) := Int.ofNat_lt.mpr hlt
      clear hic
      cases hkn : knownV cols x.vals with
      | false =>
        have HK := Lib.hid hkn
        have hn := Lib.hid (foundV_no hx.out (hasB_unknown (key := key) hkn))
        clear hkn
        go_wp2_with fail
        refine (l4Key_eq HK.out _ (h.grow (hg.trans hG)) sv hl HIC.out).mono ?_
        rintro e w1 ⟨A1, l1, c1', rfl, q1, g1⟩
        go_wp2
        go_roundw
        case rel => exact ⟨k + 1, n, c, Q, by omega, by go_num, rfl, by omega, by rw [hn.out]; exact own.grow g1⟩
        case measure => simp [intOf]; omega
      | true =>
        have HK := Lib.hid hkn
        have hh0 := hasB_known (key := key) hkn
        clear hkn
        go_wp2_with fail
        refine (l4Key_eq HK.out _ (h.grow (hg.trans hG)) sv hl HIC.out).mono ?_
        rintro e w1 ⟨A1, l1, c1', rfl, q1, g1⟩
        cases hsm : sameV (keyV cols x.vals) key with
        | false =>
          have hn := Lib.hid (foundV_no hx.out (hh0.trans hsm))
          have HS := Lib.hid hsm
          clear hsm hh0
          go_wp2_with fail
          refine (l1SameVals_eq HS.out _ q1.fresh (hk.grow (hg.trans (hG.trans g1)))).mono ?_
          rintro e w2 ⟨rfl, g2⟩
          go_wp2
          go_roundw
          case rel => exact ⟨k + 1, n, c, Q, by omega, by go_num, rfl, by omega, by rw [hn.out]; exact own.grow (g1.trans g2)⟩
          case measure => simp [intOf]; omega
        | true =>
          have hn := Lib.hid (foundV_yes hx.out (hh0.trans hsm))
          have HS := Lib.hid hsm
          clear hsm hh0
          go_wp2_with fail
          refine (l1SameVals_eq HS.out _ q1.fresh (hk.grow (hg.trans (hG.trans g1)))).mono ?_
          rintro e w2 ⟨rfl, g2⟩
          have own2 := own.grow (g1.trans g2)
          have g12 := g1.trans g2
          have t02 := (g12.same _ _ hsr).trans t0
          have c02 := (g12.same _ _ hb).trans c0
          go_wp2_with (at_builtin; refine wpList_app plain_int ones_int elem_int rfl (.tmp 36) (.tmp 43) (by rfl) (by rfl) (own2.grow ((Grow.refl _).alloc _)) (by rfl) (isSl_one (by decide) (new_block _ _) rfl) (q := n + 1) rfl (by unfold maxLen; omega) (by omega) (fun A3 c3 w3 ap3 => ?_))
          go_roundw
          case rel => exact ⟨k + 1, n + 1, c3, A3, by omega, by go_num, rfl, by omega, by rw [hn.out]; exact ap3.own⟩
          case measure => simp [intOf]; omega
    · obtain rfl : k = la := by omega
      have own2 := own
      rw [List.take_of_length_le (by rw [HR.out]; exact Nat.le_refl _)] at own2
      go_wp2
      go_ret
      exact ⟨_, _, _, rfl, (own2.low hg).isSl, hg.trans hG⟩
theorem tabAt_at {s : List Table} {q : Nat} {t : Table} (h : s[q]? = some t) : tabAt s q = t := by simp [tabAt, h]
theorem datAt_at {db : List Data} {q : Nat} {d : Data} (h : db[q]? = some d) : datAt db q = d := by simp [datAt, h]
theorem isTab_nat {s : List Table} {table : Int} (h : isTabB s table = true) : ∃ q : Nat, table = q ∧ q < s.length := by
  simp only [isTabB, inB, Bool.and_eq_true, decide_eq_true_eq] at h
  exact ⟨table.toNat, by omega, by omega⟩
theorem isTable_any {A : Option Addr} {la ca : Nat} {s : List Table} (table : Int) (w : World) (hs : IsSl Kd.table w (· < w.heap.size) A la ca s) :
    Calls Tryz.prog 44 #[.slice A la ca, .int .i64 table] w (Just w (.bool (isTabB s table))) := by
  have ha1 : la ≤ maxLen := Nat.le_trans hs.2.1 hs.2.2.1
  have HI := Lib.hid (show inB table 0 ((la : Int) - 1) = isTabB s table by rw [isTabB, hs.1])
  unfold maxLen at ha1
  have v1 : IntKind.i64.wrap ((la : Int) - 1) = (la : Int) - 1 := IntWalk.i64_in _ (by omega)
  go_enter Tryz.func44, Tryz.ntmps44
  go_wp2_with (first | (go_at_call 57; (with_reducible refine (in_eq HI.out _).mono ?_); rintro e w1 ⟨rfl, rfl⟩))
  go_ret
  exact ⟨rfl, rfl⟩
theorem isTable_eq {A : Option Addr} {la ca : Nat} {s : List Table} {table : Int} {r : Bool} (hr : isTabB s table = r) (w : World) (hs : IsSl Kd.table w (· < w.heap.size) A la ca s) :
    Calls Tryz.prog 44 #[.slice A la ca, .int .i64 table] w (Just w (.bool r)) := by
  subst hr; exact isTable_any table w hs
theorem areIn_any {A B : Option Addr} {la ca lb cb : Nat} {s : List Table} {cols : List Int} (table : Int) (w : World) (hs : IsSl Kd.table w (· < w.heap.size) A la ca s) (h : IsSl Kd.int w (· < w.heap.size) B lb cb cols) :
    Calls Tryz.prog 59 #[.slice A la ca, .int .i64 table, .slice B lb cb] w (Ret w (.bool (isTabB s table && colsB cols (tabAt s table).cols.length))) := by
  have HS := Lib.hid hs.1
  cases ht : isTabB s table with
  | false =>
    have HT := Lib.hid ht
    go_enter Tryz.func59, Tryz.ntmps59
    go_wp2_with (first | (go_at_call 44; (with_reducible refine (isTable_eq HT.out _ hs).mono ?_); rintro e w1 ⟨rfl, rfl⟩))
    go_ret
    exact ⟨ret_bool rfl, Grow.refl _⟩
  | true =>
    have HT := Lib.hid ht
    obtain ⟨q, rfl, hq⟩ := isTab_nat ht
    rw [hs.1] at hq
    obtain ⟨b, off, t, Acols, Lcols, Ccols, Akey, Lkey, Ckey, Auniques, Luniques, Cuniques, Achecks, Lchecks, Cchecks, Afks, Lfks, Cfks, rfl, hx, _, hb2, zname, c0, c1, c2, c3, c4, c5, scols, -, -, -, -, hrdt⟩ := table_at hs hq
    have HC := Lib.hid (show colsB cols (tabAt s (q : Int)).cols.length = colsB cols Lcols by rw [tabAt_at hx.out, scols.1])
    have hc1 : Lcols ≤ maxLen := Nat.le_trans scols.2.1 scols.2.2.1
    have i0 : (0 : Int) ≤ (q : Int) := Int.natCast_nonneg q
    have i1 : (q : Int) < (la : Int) := Int.ofNat_lt.mpr hq
    unfold maxLen at hc1
    clear ht
    go_enter Tryz.func59, Tryz.ntmps59
    go_wp2_with (first | (go_at_call 44; (with_reducible refine (isTable_eq HT.out _ hs).mono ?_); rintro e w1 ⟨rfl, rfl⟩) | (go_at_call 106; refine (areColumns_any _ _ h (by omega) (by omega)).mono ?_; rintro e w1 ⟨rfl, hb⟩))
    go_ret
    exact ⟨ret_bool (by rw [HC.out]; rfl), hb⟩
theorem areIn_eq {A B : Option Addr} {la ca lb cb : Nat} {s : List Table} {cols : List Int} {table : Int} {r : Bool} (hr : (isTabB s table && colsB cols (tabAt s table).cols.length) = r) (w : World) (hs : IsSl Kd.table w (· < w.heap.size) A la ca s) (h : IsSl Kd.int w (· < w.heap.size) B lb cb cols) :
    Calls Tryz.prog 59 #[.slice A la ca, .int .i64 table, .slice B lb cb] w (Ret w (.bool r)) := by
  subst hr; exact areIn_any table w hs h
theorem iDbOk_eq {A B : Option Addr} {la ca lb cb : Nat} {s : List Table} {db : List Data} {r : Bool} (hr : dbOkB s db = r) (w : World) (hs : IsSl Kd.table w (· < w.heap.size) A la ca s) (hd : IsSl Kd.data w (· < w.heap.size) B lb cb db) :
    Calls Tryz.prog 22 #[.slice A la ca, .slice B lb cb] w (Ret w (.bool r)) := by
  subst hr; exact iDbOk_any w hs hd
/-- What holds of a table of a right database. -/
theorem db_table {s : List Table} {db : List Data} (h : dbOkB s db = true) {q : Nat} {d : Data} (hd : db[q]? = some d) : ∃ t, s[q]? = some t ∧ tableOkB t = true ∧ d.rows.length ≤ 60 ∧ ∀ r ∈ d.rows, fitB t.cols r.vals = true := by
  simp only [dbOkB, Bool.and_eq_true] at h
  obtain ⟨t, ht, hr⟩ := db_at h.2 hd
  refine ⟨t, ht, schemaOk_at h.1 ht, ?_, fun r hrm => ?_⟩
  · simp only [rowsB, Bool.and_eq_true, decide_eq_true_eq] at hr
    exact hr.1
  · obtain ⟨i, hi, rfl⟩ := List.getElem_of_mem hrm
    exact rows_fit hr (List.getElem?_eq_getElem hi)
theorem find_parts {s : List Table} {db : List Data} {q : Nat} {d : Data} {t : Table} {cols : List Int} (h : dbOkB s db = true) (hd : db[q]? = some d) (ht : s[q]? = some t) (hc : colsB cols t.cols.length = true) :
    d.rows.length ≤ 60 ∧ cols.length ≤ 8 ∧ ∀ r ∈ d.rows, InCols cols r.vals.length := by
  obtain ⟨t', ht', h1, h2, h3⟩ := db_table h hd
  obtain rfl : t' = t := Option.some.inj (ht'.symm.trans ht)
  refine ⟨h2, Nat.le_trans (colsB_len hc) (tableOk_cols h1).2, fun r hr => ?_⟩
  rw [fit_len (h3 r hr)]
  exact fun c hcm => colsB_mem hc hcm
set_option maxHeartbeats 2000000 in
theorem iFindRows_any {A B C D : Option Addr} {la ca lb cb lc cc ld cd : Nat} {s : List Table} {db : List Data} (table : Int) {cols : List Int} {key : List Val} (w : World) (hs : IsSl Kd.table w (· < w.heap.size) A la ca s) (hd : IsSl Kd.data w (· < w.heap.size) B lb cb db)
    (h : IsSl Kd.int w (· < w.heap.size) C lc cc cols) (hk : IsSl Kd.val w (· < w.heap.size) D ld cd key) : Calls Tryz.prog 24 #[.slice A la ca, .slice B lb cb, .int .i64 table, .slice C lc cc, .slice D ld cd] w (IntsRes (findV s db table cols key) w) := by
  have hcur := Grow.refl w
  cases hok : dbOkB s db with
  | false =>
    have HO := Lib.hid hok
    have hf := Lib.hid (show findV s db table cols key = [] by rw [findV, findB, hok]; rfl)
    go_enter Tryz.func24, Tryz.ntmps24
    go_wp2_with (first | (go_at_call 22; (with_reducible refine (iDbOk_eq HO.out _ (hs.grow hcur) (hd.grow hcur)).mono ?_); rintro e w1 ⟨rfl, hb⟩; replace hcur := hcur.trans hb; replace hc := hcur.same; clear hb))
    go_ret
    exact ⟨none, 0, 0, rfl, by rw [hf.out]; exact IsSl.nil, hcur⟩
  | true =>
    have HO := Lib.hid hok
    cases hai : (isTabB s table && colsB cols (tabAt s table).cols.length) with
    | false =>
      have HA := Lib.hid hai
      have hf := Lib.hid (show findV s db table cols key = [] by rw [findV, findB, hok, Bool.true_and, hai]; rfl)
      clear hok hai
      go_enter Tryz.func24, Tryz.ntmps24
      go_wp2_with (first | (go_at_call 22; (with_reducible refine (iDbOk_eq HO.out _ (hs.grow hcur) (hd.grow hcur)).mono ?_); rintro e w1 ⟨rfl, hb⟩; replace hcur := hcur.trans hb; replace hc := hcur.same; clear hb) | (go_at_call 59; (with_reducible refine (areIn_eq HA.out _ (hs.grow hcur) (h.grow hcur)).mono ?_); rintro e w1 ⟨rfl, hb⟩; replace hcur := hcur.trans hb; replace hc := hcur.same; clear hb))
      go_ret
      exact ⟨none, 0, 0, rfl, by rw [hf.out]; exact IsSl.nil, hcur⟩
    | true =>
      have HA := Lib.hid hai
      have hai2 := hai
      simp only [Bool.and_eq_true] at hai2
      obtain ⟨ht1, ht2⟩ := hai2
      obtain ⟨q, rfl, hq⟩ := isTab_nat ht1
      have hdl : db.length = s.length := by
        have := hok
        simp only [dbOkB, Bool.and_eq_true] at this
        exact db_len this.2
      have hq2 : q < lb := by rw [← hd.1, hdl]; exact hq
      obtain ⟨b, off, d, Ar, Lr, Cr, rfl, hxd, _, hb, c0, sr, hrdx⟩ := data_at hd hq2
      have htq := List.getElem?_eq_getElem hq
      rw [tabAt_at htq] at ht2
      obtain ⟨p1, p2, p3⟩ := find_parts hok hxd.out htq ht2
      have hf := Lib.hid (show findV s db (q : Int) cols key = foundV d.rows cols key by rw [findV, findB, hok, Bool.true_and, hai, if_pos rfl, datAt_at hxd.out])
      rw [sr.1] at p1
      rw [h.1] at p2
      have P3 := Lib.hid p3
      have i0 : (0 : Int) ≤ (q : Int) := Int.natCast_nonneg q
      have i1 : (q : Int) < (lb : Int) := Int.ofNat_lt.mpr hq2
      clear hok hai ht1 ht2 htq hdl p3
      have hc := hcur.same
      go_enter Tryz.func24, Tryz.ntmps24
      go_wp2_with (first | (go_at_call 22; (with_reducible refine (iDbOk_eq HO.out _ (hs.grow hcur) (hd.grow hcur)).mono ?_); rintro e w1 ⟨rfl, hb⟩; replace hcur := hcur.trans hb; replace hc := hcur.same; clear hb) | (go_at_call 59; (with_reducible refine (areIn_eq HA.out _ (hs.grow hcur) (h.grow hcur)).mono ?_); rintro e w1 ⟨rfl, hb⟩; replace hcur := hcur.trans hb; replace hc := hcur.same; clear hb))
      refine (found_any _ (sr.grow hcur) (h.grow hcur) (hk.grow hcur) (by omega) (by omega) P3.out).mono ?_
      rintro e w5 ⟨A5, l5, c5, rfl, r5, g5⟩
      go_wp2
      go_ret
      exact ⟨_, _, _, rfl, by rw [hf.out]; exact r5.mono (fun b hb => hb.low hcur.size) (fun _ _ => rfl), hcur.trans g5⟩
end Go.Proofs.YtjeilgogjoidjaaGreat
