/- The law FnOrder returns true for every code: drawn values are in one order. No condition. -/
import Derived.Test.YteeenmjkfaeepaaRows
import Derived.Test.YteeenmjkfaeepaaDraw1
import Derived.Test.YteeenmjkfaeepaaOrd
import Derived.ProofKit
import Derived.OpenShut
import Derived.ShutString
import Derived.ChangeOld
import Derived.SizedLaws
namespace Go.Proofs.Yteeenmjkfaeepaa
open Go.RowKit
set_option linter.unusedVariables false
set_option linter.unusedSimpArgs false
theorem big_any {A : Option Addr} {len cap : Nat} (w : World) (hl : len ≤ maxLen) : Calls Try.prog 31 #[.slice A len cap] w (Just w (.bool (decide ((len : Int) > 1048576)))) := by
  unfold maxLen at hl
  go_enter Try.func31, Try.ntmps31
  go_wp2
  go_ret
  exact ⟨ret_bool (by simp), rfl⟩
theorem order_of {a b : Val} (ha : okB a = true) (hb : okB b = true) : order a b = ordV a b := by simp [order, ha, hb]
set_option maxRecDepth 100000 in
set_option maxHeartbeats 4000000 in
theorem law_FnOrder (A : Option Addr) (len cap : Nat) (xs : List Int) {W : World} (h : IsSl Kd.byte W (· < W.heap.size) A len cap xs) (w : World) (hw : w = W) :
    Calls Try.prog 14 #[.slice A len cap] w (Ret w (.bool true)) := by
  subst hw
  have hl := Nat.le_trans h.2.1 h.2.2.1
  go_enter Try.func14, Try.ntmps14
  have hcur := Grow.refl w
  go_wp2_with (first | (go_at_call 31; (with_reducible refine (big_any _ hl).mono ?_); rintro e w1 ⟨rfl, rfl⟩))
  · go_ret
    exact ⟨rfl, Grow.refl _⟩
  refine (drawOrder_any _ h).mono ?_
  rintro e w1 ⟨⟨k, n, s⟩, ⟨l, m, t⟩, rfl, ha, hb, ha2, hb2, hg1⟩
  have hg2 := hcur.trans hg1
  clear hcur
  dsimp only
  go_wp2_with fail
  generalize hW : World.alloc (World.alloc w1 _) _ = W
  obtain ⟨hg, hs, hs', k1, k2⟩ := boxed2 hW
  clear hW
  have h1 := (h.grow hg2).grow hg
  refine (drawValOk_any _ h1).mono ?_
  rintro e w2 ⟨⟨i, j, u⟩, rfl, hc2, hg3⟩
  dsimp only
  have hs3 : w1.heap.size < w2.heap.size := Nat.lt_of_lt_of_le hs hg3.size
  have hs3' : w1.heap.size + 1 < w2.heap.size := Nat.lt_of_lt_of_le hs' hg3.size
  have c1 : ∀ o, w2.cell? ⟨w1.heap.size, o, none⟩ = _ := fun o => (hg3.same _ _ hs).trans (k1 o)
  have c2 : ∀ o, w2.cell? ⟨w1.heap.size + 1, o, none⟩ = _ := fun o => (hg3.same _ _ hs').trans (k2 o)
  clear k1 k2 hs hs'
  go_wp2_with fail
  generalize hW : World.alloc w2 _ = W2
  obtain ⟨hg4, hs4, k4⟩ := boxed1 hW
  clear hW
  have s0 : w1.heap.size < W2.heap.size := Nat.lt_of_lt_of_le hs3 hg4.size
  have s1 : w1.heap.size + 1 < W2.heap.size := Nat.lt_of_lt_of_le hs3' hg4.size
  have k1 : ∀ o, W2.cell? ⟨w1.heap.size, o, none⟩ = _ := fun o => (hg4.same _ _ hs3).trans (c1 o)
  have k2 : ∀ o, W2.cell? ⟨w1.heap.size + 1, o, none⟩ = _ := fun o => (hg4.same _ _ hs3').trans (c2 o)
  have G := hg2.trans (hg.trans (hg3.trans hg4))
  clear c1 c2 hs3 hs3' hg hg2 hg1 hg3 hg4 h1
  have hcur := Grow.refl W2
  have o1 := order_of ha hb
  have o2 := order_of hb ha
  have o3 := ordV_three ⟨k, n, s⟩ ⟨l, m, t⟩
  have o4 := ordV_turn ⟨k, n, s⟩ ⟨l, m, t⟩
  have o5 := ordV_zero ⟨k, n, s⟩ ⟨l, m, t⟩
  rw [o4] at o2
  have TR : okB ⟨i, j, u⟩ = true → ordV ⟨k, n, s⟩ ⟨l, m, t⟩ ≤ 0 → order ⟨l, m, t⟩ ⟨i, j, u⟩ ≤ 0 → order ⟨k, n, s⟩ ⟨i, j, u⟩ ≤ 0 := fun hc p q => by
    rw [order_of hb hc] at q
    rw [order_of ha hc]
    exact ordV_le_trans _ _ _ p q
  have HT := Lib.hid TR
  clear TR o4 h hl
  rcases o3 with e | e | e
  all_goals rw [e] at o1 o2 o5 HT
  all_goals have q1 : IntKind.i64.wrap (-1) = -1 := IntWalk.i64_in _ (by decide)
  all_goals have q2 : IntKind.i64.wrap 0 = 0 := IntWalk.i64_in _ (by decide)
  all_goals have q3 : IntKind.i64.wrap 1 = 1 := IntWalk.i64_in _ (by decide)
  · have h5 : eqV ⟨k, n, s⟩ ⟨l, m, t⟩ = false := by rw [Bool.eq_false_iff]; intro x; exact absurd (o5.mpr x) (by decide)
    replace o2 : order ⟨l, m, t⟩ ⟨k, n, s⟩ = 1 := o2
    simp only [eqV] at h5
    clear o5 e
    by_cases e1 : k = l
    · subst e1
      by_cases e2 : n = m
      · subst e2
        have e3 : (s.toList == t.toList) = false := by simpa using h5
        clear h5
        go_wp2_with (first | (go_at_call 28; (with_reducible refine (iOrder_any _ _ _ _ _ _ _).mono ?_); rintro e w1 ⟨rfl, hb⟩; replace hcur := hcur.trans hb; replace hc := hcur.same; clear hb) | (go_at_call 27; (with_reducible refine (sOrder_any _ _ _ _ _ _ _).mono ?_); rintro e w1 ⟨rfl, hb⟩; replace hcur := hcur.trans hb; replace hc := hcur.same; clear hb) | (go_at_call 20; (with_reducible refine (iValOk_any _ _ _ _).mono ?_); rintro e w1 ⟨rfl, hb⟩; replace hcur := hcur.trans hb; replace hc := hcur.same; clear hb) | (go_at_call 18; (with_reducible refine (sValOk_any _ _ _ _).mono ?_); rintro e w1 ⟨rfl, hb⟩; replace hcur := hcur.trans hb; replace hc := hcur.same; clear hb))
        go_region_held3 (fun w' => Grow W2 w' ∧ Same W2 w') (exact Grow.both (by repeat (with_reducible first | exact Grow.refl _ | assumption | refine Grow.drew ?_ | refine Grow.alloc ?_ _ | refine Grow.set ?_ (by first | exact Nat.le_refl _ | (simp; done) | (simp; omega) | omega) _ | exact And.left (by assumption) | refine Grow.trans ?_ (by assumption)))) (first | (go_at_call 28; refine (iOrder_any _ _ _ _ _ _ _).mono ?_; rintro e w2 ⟨rfl, hb⟩) | (go_at_call 27; refine (sOrder_any _ _ _ _ _ _ _).mono ?_; rintro e w2 ⟨rfl, hb⟩) | (go_at_call 20; refine (iValOk_any _ _ _ _).mono ?_; rintro e w2 ⟨rfl, hb⟩) | (go_at_call 18; refine (sValOk_any _ _ _ _).mono ?_; rintro e w2 ⟨rfl, hb⟩))
        clear hcur hc
        obtain ⟨hcur, hc⟩ : Grow W2 w2 ∧ Same W2 w2 := by assumption
        go_wp2_with (first | (go_at_call 28; (with_reducible refine (iOrder_any _ _ _ _ _ _ _).mono ?_); rintro e w1 ⟨rfl, hb⟩; replace hcur := hcur.trans hb; replace hc := hcur.same; clear hb) | (go_at_call 18; (with_reducible refine (sValOk_any _ _ _ _).mono ?_); rintro e w1 ⟨rfl, hb⟩; replace hcur := hcur.trans hb; replace hc := hcur.same; clear hb))
        all_goals go_ret
        all_goals refine ⟨ret_bool ?_, G.trans hcur⟩
        all_goals first | rfl | (have hT := HT.out (by assumption) (by decide); clear hcur hc k1 k2 k4 G HT; by_cases q : order ⟨k, n, t⟩ ⟨i, j, u⟩ ≤ 0 <;> simp_all <;> omega)
      · have e3 : (n == m) = false := by simpa using e2
        clear h5 e2
        go_wp2_with (first | (go_at_call 28; (with_reducible refine (iOrder_any _ _ _ _ _ _ _).mono ?_); rintro e w1 ⟨rfl, hb⟩; replace hcur := hcur.trans hb; replace hc := hcur.same; clear hb) | (go_at_call 27; (with_reducible refine (sOrder_any _ _ _ _ _ _ _).mono ?_); rintro e w1 ⟨rfl, hb⟩; replace hcur := hcur.trans hb; replace hc := hcur.same; clear hb) | (go_at_call 20; (with_reducible refine (iValOk_any _ _ _ _).mono ?_); rintro e w1 ⟨rfl, hb⟩; replace hcur := hcur.trans hb; replace hc := hcur.same; clear hb) | (go_at_call 18; (with_reducible refine (sValOk_any _ _ _ _).mono ?_); rintro e w1 ⟨rfl, hb⟩; replace hcur := hcur.trans hb; replace hc := hcur.same; clear hb))
        go_region_held3 (fun w' => Grow W2 w' ∧ Same W2 w') (exact Grow.both (by repeat (with_reducible first | exact Grow.refl _ | assumption | refine Grow.drew ?_ | refine Grow.alloc ?_ _ | refine Grow.set ?_ (by first | exact Nat.le_refl _ | (simp; done) | (simp; omega) | omega) _ | exact And.left (by assumption) | refine Grow.trans ?_ (by assumption)))) (first | (go_at_call 28; refine (iOrder_any _ _ _ _ _ _ _).mono ?_; rintro e w2 ⟨rfl, hb⟩) | (go_at_call 27; refine (sOrder_any _ _ _ _ _ _ _).mono ?_; rintro e w2 ⟨rfl, hb⟩) | (go_at_call 20; refine (iValOk_any _ _ _ _).mono ?_; rintro e w2 ⟨rfl, hb⟩) | (go_at_call 18; refine (sValOk_any _ _ _ _).mono ?_; rintro e w2 ⟨rfl, hb⟩))
        clear hcur hc
        obtain ⟨hcur, hc⟩ : Grow W2 w2 ∧ Same W2 w2 := by assumption
        go_wp2_with (first | (go_at_call 28; (with_reducible refine (iOrder_any _ _ _ _ _ _ _).mono ?_); rintro e w1 ⟨rfl, hb⟩; replace hcur := hcur.trans hb; replace hc := hcur.same; clear hb) | (go_at_call 18; (with_reducible refine (sValOk_any _ _ _ _).mono ?_); rintro e w1 ⟨rfl, hb⟩; replace hcur := hcur.trans hb; replace hc := hcur.same; clear hb))
        all_goals go_ret
        all_goals refine ⟨ret_bool ?_, G.trans hcur⟩
        all_goals first | rfl | (have hT := HT.out (by assumption) (by decide); clear hcur hc k1 k2 k4 G HT; by_cases q : order ⟨k, m, t⟩ ⟨i, j, u⟩ ≤ 0 <;> simp_all <;> omega)
    · have e3 : (k == l) = false := by simpa using e1
      clear h5 e1
      go_wp2_with (first | (go_at_call 28; (with_reducible refine (iOrder_any _ _ _ _ _ _ _).mono ?_); rintro e w1 ⟨rfl, hb⟩; replace hcur := hcur.trans hb; replace hc := hcur.same; clear hb) | (go_at_call 27; (with_reducible refine (sOrder_any _ _ _ _ _ _ _).mono ?_); rintro e w1 ⟨rfl, hb⟩; replace hcur := hcur.trans hb; replace hc := hcur.same; clear hb) | (go_at_call 20; (with_reducible refine (iValOk_any _ _ _ _).mono ?_); rintro e w1 ⟨rfl, hb⟩; replace hcur := hcur.trans hb; replace hc := hcur.same; clear hb) | (go_at_call 18; (with_reducible refine (sValOk_any _ _ _ _).mono ?_); rintro e w1 ⟨rfl, hb⟩; replace hcur := hcur.trans hb; replace hc := hcur.same; clear hb))
      go_region_held3 (fun w' => Grow W2 w' ∧ Same W2 w') (exact Grow.both (by repeat (with_reducible first | exact Grow.refl _ | assumption | refine Grow.drew ?_ | refine Grow.alloc ?_ _ | refine Grow.set ?_ (by first | exact Nat.le_refl _ | (simp; done) | (simp; omega) | omega) _ | exact And.left (by assumption) | refine Grow.trans ?_ (by assumption)))) (first | (go_at_call 28; refine (iOrder_any _ _ _ _ _ _ _).mono ?_; rintro e w2 ⟨rfl, hb⟩) | (go_at_call 27; refine (sOrder_any _ _ _ _ _ _ _).mono ?_; rintro e w2 ⟨rfl, hb⟩) | (go_at_call 20; refine (iValOk_any _ _ _ _).mono ?_; rintro e w2 ⟨rfl, hb⟩) | (go_at_call 18; refine (sValOk_any _ _ _ _).mono ?_; rintro e w2 ⟨rfl, hb⟩))
      clear hcur hc
      obtain ⟨hcur, hc⟩ : Grow W2 w2 ∧ Same W2 w2 := by assumption
      go_wp2_with (first | (go_at_call 28; (with_reducible refine (iOrder_any _ _ _ _ _ _ _).mono ?_); rintro e w1 ⟨rfl, hb⟩; replace hcur := hcur.trans hb; replace hc := hcur.same; clear hb) | (go_at_call 18; (with_reducible refine (sValOk_any _ _ _ _).mono ?_); rintro e w1 ⟨rfl, hb⟩; replace hcur := hcur.trans hb; replace hc := hcur.same; clear hb))
      all_goals go_ret
      all_goals refine ⟨ret_bool ?_, G.trans hcur⟩
      all_goals first | rfl | (have hT := HT.out (by assumption) (by decide); clear hcur hc k1 k2 k4 G HT; by_cases q : order ⟨l, m, t⟩ ⟨i, j, u⟩ ≤ 0 <;> simp_all <;> omega)
  · have h5 := o5.mp rfl
    replace o2 : order ⟨l, m, t⟩ ⟨k, n, s⟩ = 0 := o2
    simp only [eqV, Bool.and_eq_true, beq_iff_eq] at h5
    obtain ⟨rfl, rfl, h5⟩ := h5
    clear o5 e
    obtain rfl : s = t := WideShapes.bytes_inj (by rw [← ByteArray.toList_eq, ← ByteArray.toList_eq]; exact h5)
    clear h5
    go_wp2_with (first | (go_at_call 28; (with_reducible refine (iOrder_any _ _ _ _ _ _ _).mono ?_); rintro e w1 ⟨rfl, hb⟩; replace hcur := hcur.trans hb; replace hc := hcur.same; clear hb) | (go_at_call 27; (with_reducible refine (sOrder_any _ _ _ _ _ _ _).mono ?_); rintro e w1 ⟨rfl, hb⟩; replace hcur := hcur.trans hb; replace hc := hcur.same; clear hb) | (go_at_call 20; (with_reducible refine (iValOk_any _ _ _ _).mono ?_); rintro e w1 ⟨rfl, hb⟩; replace hcur := hcur.trans hb; replace hc := hcur.same; clear hb) | (go_at_call 18; (with_reducible refine (sValOk_any _ _ _ _).mono ?_); rintro e w1 ⟨rfl, hb⟩; replace hcur := hcur.trans hb; replace hc := hcur.same; clear hb))
    go_region_held3 (fun w' => Grow W2 w' ∧ Same W2 w') (exact Grow.both (by repeat (with_reducible first | exact Grow.refl _ | assumption | refine Grow.drew ?_ | refine Grow.alloc ?_ _ | refine Grow.set ?_ (by first | exact Nat.le_refl _ | (simp; done) | (simp; omega) | omega) _ | exact And.left (by assumption) | refine Grow.trans ?_ (by assumption)))) (first | (go_at_call 28; refine (iOrder_any _ _ _ _ _ _ _).mono ?_; rintro e w2 ⟨rfl, hb⟩) | (go_at_call 27; refine (sOrder_any _ _ _ _ _ _ _).mono ?_; rintro e w2 ⟨rfl, hb⟩) | (go_at_call 20; refine (iValOk_any _ _ _ _).mono ?_; rintro e w2 ⟨rfl, hb⟩) | (go_at_call 18; refine (sValOk_any _ _ _ _).mono ?_; rintro e w2 ⟨rfl, hb⟩))
    clear hcur hc
    obtain ⟨hcur, hc⟩ : Grow W2 w2 ∧ Same W2 w2 := by assumption
    go_wp2_with (first | (go_at_call 28; (with_reducible refine (iOrder_any _ _ _ _ _ _ _).mono ?_); rintro e w1 ⟨rfl, hb⟩; replace hcur := hcur.trans hb; replace hc := hcur.same; clear hb) | (go_at_call 18; (with_reducible refine (sValOk_any _ _ _ _).mono ?_); rintro e w1 ⟨rfl, hb⟩; replace hcur := hcur.trans hb; replace hc := hcur.same; clear hb))
    all_goals go_ret
    all_goals refine ⟨ret_bool ?_, G.trans hcur⟩
    all_goals first | rfl | (have hT := HT.out (by assumption) (by decide); clear hcur hc k1 k2 k4 G HT; by_cases q : order ⟨k, n, s⟩ ⟨i, j, u⟩ ≤ 0 <;> simp_all <;> omega)
  · have h5 : eqV ⟨k, n, s⟩ ⟨l, m, t⟩ = false := by rw [Bool.eq_false_iff]; intro x; exact absurd (o5.mpr x) (by decide)
    replace o2 : order ⟨l, m, t⟩ ⟨k, n, s⟩ = -1 := o2
    simp only [eqV] at h5
    clear o5 e
    by_cases e1 : k = l
    · subst e1
      by_cases e2 : n = m
      · subst e2
        have e3 : (s.toList == t.toList) = false := by simpa using h5
        clear h5
        go_wp2_with (first | (go_at_call 28; (with_reducible refine (iOrder_any _ _ _ _ _ _ _).mono ?_); rintro e w1 ⟨rfl, hb⟩; replace hcur := hcur.trans hb; replace hc := hcur.same; clear hb) | (go_at_call 27; (with_reducible refine (sOrder_any _ _ _ _ _ _ _).mono ?_); rintro e w1 ⟨rfl, hb⟩; replace hcur := hcur.trans hb; replace hc := hcur.same; clear hb) | (go_at_call 20; (with_reducible refine (iValOk_any _ _ _ _).mono ?_); rintro e w1 ⟨rfl, hb⟩; replace hcur := hcur.trans hb; replace hc := hcur.same; clear hb) | (go_at_call 18; (with_reducible refine (sValOk_any _ _ _ _).mono ?_); rintro e w1 ⟨rfl, hb⟩; replace hcur := hcur.trans hb; replace hc := hcur.same; clear hb))
        go_region_held3 (fun w' => Grow W2 w' ∧ Same W2 w') (exact Grow.both (by repeat (with_reducible first | exact Grow.refl _ | assumption | refine Grow.drew ?_ | refine Grow.alloc ?_ _ | refine Grow.set ?_ (by first | exact Nat.le_refl _ | (simp; done) | (simp; omega) | omega) _ | exact And.left (by assumption) | refine Grow.trans ?_ (by assumption)))) (first | (go_at_call 28; refine (iOrder_any _ _ _ _ _ _ _).mono ?_; rintro e w2 ⟨rfl, hb⟩) | (go_at_call 27; refine (sOrder_any _ _ _ _ _ _ _).mono ?_; rintro e w2 ⟨rfl, hb⟩) | (go_at_call 20; refine (iValOk_any _ _ _ _).mono ?_; rintro e w2 ⟨rfl, hb⟩) | (go_at_call 18; refine (sValOk_any _ _ _ _).mono ?_; rintro e w2 ⟨rfl, hb⟩))
        clear hcur hc
        obtain ⟨hcur, hc⟩ : Grow W2 w2 ∧ Same W2 w2 := by assumption
        go_wp2_with (first | (go_at_call 28; (with_reducible refine (iOrder_any _ _ _ _ _ _ _).mono ?_); rintro e w1 ⟨rfl, hb⟩; replace hcur := hcur.trans hb; replace hc := hcur.same; clear hb) | (go_at_call 18; (with_reducible refine (sValOk_any _ _ _ _).mono ?_); rintro e w1 ⟨rfl, hb⟩; replace hcur := hcur.trans hb; replace hc := hcur.same; clear hb))
        all_goals go_ret
        all_goals refine ⟨ret_bool ?_, G.trans hcur⟩
        all_goals first | rfl | (have hT := HT.out (by assumption) (by decide); clear hcur hc k1 k2 k4 G HT; by_cases q : order ⟨k, n, t⟩ ⟨i, j, u⟩ ≤ 0 <;> simp_all <;> omega)
      · have e3 : (n == m) = false := by simpa using e2
        clear h5 e2
        go_wp2_with (first | (go_at_call 28; (with_reducible refine (iOrder_any _ _ _ _ _ _ _).mono ?_); rintro e w1 ⟨rfl, hb⟩; replace hcur := hcur.trans hb; replace hc := hcur.same; clear hb) | (go_at_call 27; (with_reducible refine (sOrder_any _ _ _ _ _ _ _).mono ?_); rintro e w1 ⟨rfl, hb⟩; replace hcur := hcur.trans hb; replace hc := hcur.same; clear hb) | (go_at_call 20; (with_reducible refine (iValOk_any _ _ _ _).mono ?_); rintro e w1 ⟨rfl, hb⟩; replace hcur := hcur.trans hb; replace hc := hcur.same; clear hb) | (go_at_call 18; (with_reducible refine (sValOk_any _ _ _ _).mono ?_); rintro e w1 ⟨rfl, hb⟩; replace hcur := hcur.trans hb; replace hc := hcur.same; clear hb))
        go_region_held3 (fun w' => Grow W2 w' ∧ Same W2 w') (exact Grow.both (by repeat (with_reducible first | exact Grow.refl _ | assumption | refine Grow.drew ?_ | refine Grow.alloc ?_ _ | refine Grow.set ?_ (by first | exact Nat.le_refl _ | (simp; done) | (simp; omega) | omega) _ | exact And.left (by assumption) | refine Grow.trans ?_ (by assumption)))) (first | (go_at_call 28; refine (iOrder_any _ _ _ _ _ _ _).mono ?_; rintro e w2 ⟨rfl, hb⟩) | (go_at_call 27; refine (sOrder_any _ _ _ _ _ _ _).mono ?_; rintro e w2 ⟨rfl, hb⟩) | (go_at_call 20; refine (iValOk_any _ _ _ _).mono ?_; rintro e w2 ⟨rfl, hb⟩) | (go_at_call 18; refine (sValOk_any _ _ _ _).mono ?_; rintro e w2 ⟨rfl, hb⟩))
        clear hcur hc
        obtain ⟨hcur, hc⟩ : Grow W2 w2 ∧ Same W2 w2 := by assumption
        go_wp2_with (first | (go_at_call 28; (with_reducible refine (iOrder_any _ _ _ _ _ _ _).mono ?_); rintro e w1 ⟨rfl, hb⟩; replace hcur := hcur.trans hb; replace hc := hcur.same; clear hb) | (go_at_call 18; (with_reducible refine (sValOk_any _ _ _ _).mono ?_); rintro e w1 ⟨rfl, hb⟩; replace hcur := hcur.trans hb; replace hc := hcur.same; clear hb))
        all_goals go_ret
        all_goals refine ⟨ret_bool ?_, G.trans hcur⟩
        all_goals first | rfl | (have hT := HT.out (by assumption) (by decide); clear hcur hc k1 k2 k4 G HT; by_cases q : order ⟨k, m, t⟩ ⟨i, j, u⟩ ≤ 0 <;> simp_all <;> omega)
    · have e3 : (k == l) = false := by simpa using e1
      clear h5 e1
      go_wp2_with (first | (go_at_call 28; (with_reducible refine (iOrder_any _ _ _ _ _ _ _).mono ?_); rintro e w1 ⟨rfl, hb⟩; replace hcur := hcur.trans hb; replace hc := hcur.same; clear hb) | (go_at_call 27; (with_reducible refine (sOrder_any _ _ _ _ _ _ _).mono ?_); rintro e w1 ⟨rfl, hb⟩; replace hcur := hcur.trans hb; replace hc := hcur.same; clear hb) | (go_at_call 20; (with_reducible refine (iValOk_any _ _ _ _).mono ?_); rintro e w1 ⟨rfl, hb⟩; replace hcur := hcur.trans hb; replace hc := hcur.same; clear hb) | (go_at_call 18; (with_reducible refine (sValOk_any _ _ _ _).mono ?_); rintro e w1 ⟨rfl, hb⟩; replace hcur := hcur.trans hb; replace hc := hcur.same; clear hb))
      go_region_held3 (fun w' => Grow W2 w' ∧ Same W2 w') (exact Grow.both (by repeat (with_reducible first | exact Grow.refl _ | assumption | refine Grow.drew ?_ | refine Grow.alloc ?_ _ | refine Grow.set ?_ (by first | exact Nat.le_refl _ | (simp; done) | (simp; omega) | omega) _ | exact And.left (by assumption) | refine Grow.trans ?_ (by assumption)))) (first | (go_at_call 28; refine (iOrder_any _ _ _ _ _ _ _).mono ?_; rintro e w2 ⟨rfl, hb⟩) | (go_at_call 27; refine (sOrder_any _ _ _ _ _ _ _).mono ?_; rintro e w2 ⟨rfl, hb⟩) | (go_at_call 20; refine (iValOk_any _ _ _ _).mono ?_; rintro e w2 ⟨rfl, hb⟩) | (go_at_call 18; refine (sValOk_any _ _ _ _).mono ?_; rintro e w2 ⟨rfl, hb⟩))
      clear hcur hc
      obtain ⟨hcur, hc⟩ : Grow W2 w2 ∧ Same W2 w2 := by assumption
      go_wp2_with (first | (go_at_call 28; (with_reducible refine (iOrder_any _ _ _ _ _ _ _).mono ?_); rintro e w1 ⟨rfl, hb⟩; replace hcur := hcur.trans hb; replace hc := hcur.same; clear hb) | (go_at_call 18; (with_reducible refine (sValOk_any _ _ _ _).mono ?_); rintro e w1 ⟨rfl, hb⟩; replace hcur := hcur.trans hb; replace hc := hcur.same; clear hb))
      all_goals go_ret
      all_goals refine ⟨ret_bool ?_, G.trans hcur⟩
      all_goals first | rfl | (have hT := HT.out (by assumption) (by decide); clear hcur hc k1 k2 k4 G HT; by_cases q : order ⟨l, m, t⟩ ⟨i, j, u⟩ ≤ 0 <;> simp_all <;> omega)
end Go.Proofs.Yteeenmjkfaeepaa
namespace Go.Proofs.Yteeenmjkfaeepaa.FnOrder
open Go.ChangeShapes Go.WideShapes Go.ChangeAt Go.RowKit
open Go.ChangeMaps (open_string shut_string)
theorem own : ownKnob Try.prog.godebug = none := by kernel_rfl
theorem laidOut : laidOutB Try.prog = true := by kernel_rfl
set_option maxRecDepth 100000 in
theorem lifted (os : Os) (started : os.Started) (H : Type) (enc : TypeId × Value → H) :
    ReturnsInHanded {} Try.checked os 14 .any (Rows.fnOrderSpec.pre6 enc Try.prog Try.f14 Rows.fnOrderRow.domain false) (Rows.fnOrderSpec.post enc Try.prog Try.f14 false true false false) := by
  refine returnsInHanded_of_change_sized (C := Try.checked) own started (by kernel_rfl) Try.func14
    (ChangeSpec.witness6 (enc := enc) (C := Try.checked) false ⟨#[], #[.slice none 0 0], []⟩ 8 (by kernel_rfl) (by kernel_rfl) (by kernel_rfl) (by kernel_rfl)) ?_
  intro W base args ds gs before hval0 hW hcnd hsz0 _
  have hval : ∀ (j : Nat) t v, Try.f14.params[j]? = some t → args[j]? = some v → Value.okWide Try.prog W .any base t v := hval0
  have hW' := hW
  obtain ⟨p, q, hA0, hV, rfl, hfz, hnd⟩ := hW
  have hA : DataW.TrodAll enc Try.prog W 0 (fun _ => true) true Try.f14.params.toList args.toList ds p := hA0
  rw [Try.params14] at hA hval
  obtain ⟨v0, vs0, d0, ds0, p0, q0, hargs, rfl, rfl, h0, r0⟩ := trodAll_cons hA
  obtain ⟨rfl, rfl, rfl⟩ := trodAll_nil r0
  obtain rfl : args = #[v0] := by cases args; simp_all
  obtain ⟨rfl, rfl⟩ := trodVars_none hV
  have k0 := h0
  have lt0 : ∀ x ∈ p0, x.block < W.heap.size := by obtain ⟨m, hm⟩ := k0; exact DataW.trod_lt m _ _ _ hm
  obtain ⟨A0, len0, cap0, rfl⟩ := okWide_slice Try.underlying36 (hval 0 36 v0 rfl rfl)
  obtain ⟨xs0, e0⟩ := opens_bytes.of h0
  replace e0 := isSl_of e0
  clear hA0 hval0 hsz0
  refine (law_FnOrder A0 len0 cap0 xs0 e0 W rfl).mono fun e W' ⟨he, bel⟩ => ?_
  subst he
  exact ⟨_, rfl, _, _, _, [], _, [], hW', trodAll_mk1 (shut_bool Try.underlying4 _), (trodAll_cons_mk (Below.trod laidOut (by kernel_rfl) (of_decide_eq_true (by kernel_rfl)) k0 bel lt0) trodAll_mk0), rfl, Below.frame bel _, fun h => by cases h⟩
theorem over : Rows.fnOrderRow.holds Try.pinned (OpenSpec.ofChange Rows.fnOrderSpec) :=
  OpenClaim.holds_of_wide 14 Try.f14 rfl rfl rfl rfl rfl rfl rfl ⟨rfl, rfl, rfl, rfl, rfl⟩ rfl rfl rfl rfl rfl (by kernel_rfl) Try.func14 (by kernel_rfl)
    (of_decide_eq_true (by kernel_rfl)) (by unfold Func.isWrapper; first | (rw [if_pos (by decide +kernel)]; kernel_rfl) | (rw [if_neg (by decide +kernel)]; exact ⟨rfl, rfl⟩))
    (fun os started H enc _ => lifted os started H enc)
theorem proved : Rows.FnOrderSaid := over
#print axioms proved
end Go.Proofs.Yteeenmjkfaeepaa.FnOrder
namespace Go.Proofs.Yteeenmjkfaeepaa
/-- The row, for the claim. -/
theorem fnOrder_holds : Rows.FnOrderSaid := FnOrder.proved
end Go.Proofs.Yteeenmjkfaeepaa
