import Derived.Test.YtjeilgogjoidjaaDrawG
import Derived.Test.YtjeilgogjoidjaaFind
/-! The laws' looks at lists, and the laws FnFindBoth and FnFindRows, walked. -/
namespace Go.Proofs.Ytjeilgogjoidjaa
open Go.RowKit
set_option linter.unusedVariables false
set_option linter.unusedSimpArgs false
theorem sameInts_same {A B : Option Addr} {la ca lb cb : Nat} {xs : List Int} (w : World) (h : IsSl Kd.int w (· < w.heap.size) A la ca xs) (h' : IsSl Kd.int w (· < w.heap.size) B lb cb xs) :
    Calls Try.prog 21 #[.slice A la ca, .slice B lb cb] w (Ret w (.bool true)) := by
  have hll : lb = la := h'.1.symm.trans h.1
  subst hll
  have hlen : lb ≤ maxLen := Nat.le_trans h.2.1 h.2.2.1
  unfold maxLen at hlen
  go_enter Try.func21, Try.ntmps21
  go_wp2
  go_loopw [5] (fun i wr => ∃ k : Nat, k ≤ lb ∧ i = .int .i64 k ∧ Grow w wr) (fun i _ => lb - (intOf i).toNat)
  case atStart => exact ⟨0, Nat.zero_le _, rfl, Grow.refl _⟩
  case round =>
    obtain ⟨k, hk, rfl, hg⟩ := hrel
    by_cases hlt : k < lb
    · obtain ⟨b, off, x, rfl, hx, c0⟩ := int_at (h.grow hg) hlt
      obtain ⟨b', off', x', rfl, hx', d0⟩ := int_at (h'.grow hg) hlt
      obtain rfl : x = x' := Option.some.inj (hx.out.symm.trans hx'.out)
      have hb := cells_lt c0
      have hb' := cells_lt d0
      have i0 : (0 : Int) ≤ (k : Int) := Int.natCast_nonneg k
      have i1 : (k : Int) < (lb : Int) := Int.ofNat_lt.mpr hlt
      go_wp2
      go_region_held3 (fun w' => Grow wr w' ∧ Same wr w') (exact Grow.both (by repeat (with_reducible first | exact Grow.refl _ | assumption | refine Grow.drew ?_ | refine Grow.alloc ?_ _ | refine Grow.set ?_ (by first | exact Nat.le_refl _ | (simp; done) | (simp; omega) | omega) _ | exact And.left (by assumption) | refine Grow.trans ?_ (by assumption)))) (skip)
      go_wp2
      go_roundw
      case rel => exact ⟨k + 1, by omega, by go_num, hg.drew⟩
      case measure => simp [intOf]; omega
    · go_wp2
      go_ret
      exact ⟨rfl, hg⟩
theorem eqV_no {x y : Val} (h : eqV x y = false) : (x.kind == y.kind) = false ∨ (x.n == y.n) = false ∨ (x.s.toList == y.s.toList) = false := by
  simp only [eqV, Bool.and_eq_false_iff] at h
  exact h
theorem eqV_yes {x y : Val} (h : eqV x y = true) : x = y := by
  obtain ⟨a, b, c⟩ := x
  obtain ⟨d, e, f⟩ := y
  simp only [eqV, Bool.and_eq_true, beq_iff_eq] at h
  obtain ⟨rfl, rfl, h3⟩ := h
  congr 1
  rw [ByteArray.toList_eq, ByteArray.toList_eq] at h3
  obtain ⟨c⟩ := c
  obtain ⟨f⟩ := f
  simp only at h3
  rw [Array.toList_inj.mp h3]
theorem sameVals_eq {r : Bool} {A B : Option Addr} {la ca lb cb : Nat} {xs ys : List Val} (hr : sameV xs ys = r) (w : World) (h : IsSl Kd.val w (· < w.heap.size) A la ca xs) (h' : IsSl Kd.val w (· < w.heap.size) B lb cb ys) :
    Calls Try.prog 42 #[.slice A la ca, .slice B lb cb] w (Ret w (.bool r)) := by
  subst hr
  have hlen : la ≤ maxLen := Nat.le_trans h.2.1 h.2.2.1
  have hlen' : lb ≤ maxLen := Nat.le_trans h'.2.1 h'.2.2.1
  unfold maxLen at hlen hlen'
  by_cases hne : la = lb
  · subst hne
    have HY := Lib.hid h'.1
    have HX := Lib.hid h.1
    go_enter Try.func42, Try.ntmps42
    go_wp2
    go_loopw [5] (fun i wr => ∃ k : Nat, k ≤ la ∧ i = .int .i64 k ∧ Grow w wr ∧ Hid (∀ j x, j < k → xs[j]? = some x → sameP ys j x = true)) (fun i _ => la - (intOf i).toNat)
    case atStart => exact ⟨0, Nat.zero_le _, rfl, Grow.refl _, Lib.hid (fun j x hj => absurd hj (Nat.not_lt_zero _))⟩
    case round =>
      obtain ⟨k, hk, rfl, hg, HA⟩ := hrel
      by_cases hlt : k < la
      · obtain ⟨b, off, x, rfl, hx, _, hb, _, c0, c1, c2⟩ := val_at (h.grow hg) hlt
        obtain ⟨b', off', y, rfl, hy, _, hb', _, d0, d1, d2⟩ := val_at (h'.grow hg) hlt
        have HXX := Lib.hid hx.out
        have HYY := Lib.hid hy.out
        have i0 : (0 : Int) ≤ (k : Int) := Int.natCast_nonneg k
        have i1 : (k : Int) < (la : Int) := Int.ofNat_lt.mpr hlt
        clear hx hy
        cases hq : eqV x y with
        | true =>
          obtain rfl := eqV_yes hq
          clear hq
          go_wp2
          go_region_held3 (fun w' => Grow wr w' ∧ Same wr w') (exact Grow.both (by repeat (with_reducible first | exact Grow.refl _ | assumption | refine Grow.drew ?_ | refine Grow.alloc ?_ _ | refine Grow.set ?_ (by first | exact Nat.le_refl _ | (simp; done) | (simp; omega) | omega) _ | exact And.left (by assumption) | refine Grow.trans ?_ (by assumption)))) (skip)
          go_wp2
          go_roundw
          case rel => exact ⟨k + 1, by omega, by go_num, hg.drew, Lib.hid (fun j z hj hz => by
            rcases Nat.lt_succ_iff_lt_or_eq.mp hj with h1 | rfl
            · exact HA.out j z h1 hz
            · rw [HXX.out] at hz
              cases hz
              simp [sameP, HYY.out, eqV])⟩
          case measure => simp [intOf]; omega
        | false =>
          have HQ := Lib.hid hq
          have hno := eqV_no hq
          have hres : sameV xs ys = false := by
            have : allIx (sameP ys) xs = false := allIx_false HXX.out (by simp [sameP, HYY.out, HQ.out])
            simp [sameV, this]
          clear hq
          rcases hno with hno | hno | hno
          all_goals
            go_wp2
            go_region_held3 (fun w' => Grow wr w' ∧ Same wr w') (exact Grow.both (by repeat (with_reducible first | exact Grow.refl _ | assumption | refine Grow.drew ?_ | refine Grow.alloc ?_ _ | refine Grow.set ?_ (by first | exact Nat.le_refl _ | (simp; done) | (simp; omega) | omega) _ | exact And.left (by assumption) | refine Grow.trans ?_ (by assumption)))) (skip)
            go_wp2
            go_ret
            exact ⟨ret_bool hres.symm, hg.drew⟩
      · obtain rfl : k = la := by omega
        have hres : sameV xs ys = true := by
          simp only [sameV, Bool.and_eq_true, decide_eq_true_eq]
          refine ⟨by rw [HX.out, HY.out], ?_⟩
          simp only [allIx, List.all_eq_true, List.mem_range]
          intro j hj
          rw [List.getElem?_eq_getElem hj]
          exact HA.out j _ (by rw [← HX.out]; exact hj) (List.getElem?_eq_getElem hj)
        go_wp2
        go_ret
        exact ⟨ret_bool hres.symm, hg⟩
  · have hres : sameV xs ys = false := by
      have : ¬ (xs.length = ys.length) := by rw [h.1, h'.1]; exact hne
      simp [sameV, this]
    have hb : ((la : Int) != (lb : Int)) = true := by simp only [bne_iff_ne]; omega
    go_enter Try.func42, Try.ntmps42
    go_wp2
    go_ret
    exact ⟨ret_bool hres.symm, Grow.refl _⟩
theorem hasInt_eq {r : Bool} (n : Int) {A : Option Addr} {la ca : Nat} {xs : List Int} (hr : xs.any (· == n) = r) (w : World) (h : IsSl Kd.int w (· < w.heap.size) A la ca xs) :
    Calls Try.prog 24 #[.slice A la ca, .int .i64 n] w (Ret w (.bool r)) := by
  subst hr
  have hlen : la ≤ maxLen := Nat.le_trans h.2.1 h.2.2.1
  have HX := Lib.hid h.1
  unfold maxLen at hlen
  go_enter Try.func24, Try.ntmps24
  go_wp2
  go_loopw [5] (fun i wr => ∃ k : Nat, k ≤ la ∧ i = .int .i64 k ∧ w = wr ∧ Hid (∀ j x, j < k → xs[j]? = some x → (x == n) = false)) (fun i _ => la - (intOf i).toNat)
  case atStart => exact ⟨0, Nat.zero_le _, rfl, rfl, Lib.hid (fun j x hj => absurd hj (Nat.not_lt_zero _))⟩
  case round =>
    obtain ⟨k, hk, rfl, rfl, HA⟩ := hrel
    by_cases hlt : k < la
    · obtain ⟨b, off, x, rfl, hx, c0⟩ := int_at h hlt
      have HXX := Lib.hid hx.out
      have i0 : (0 : Int) ≤ (k : Int) := Int.natCast_nonneg k
      have i1 : (k : Int) < (la : Int) := Int.ofNat_lt.mpr hlt
      clear hx
      cases hq : (x == n) with
      | true =>
        have hres : xs.any (· == n) = true := List.any_eq_true.mpr ⟨x, List.mem_of_getElem? HXX.out, hq⟩
        go_wp2
        go_ret
        exact ⟨ret_bool hres.symm, Grow.refl _⟩
      | false =>
        have HQ := Lib.hid hq
        go_wp2
        go_roundw
        case rel => exact ⟨k + 1, by omega, by go_num, by simp, Lib.hid (fun j z hj hz => by
          rcases Nat.lt_succ_iff_lt_or_eq.mp hj with h1 | rfl
          · exact HA.out j z h1 hz
          · rw [HXX.out] at hz; cases hz; exact HQ.out)⟩
        case measure => simp [intOf]; omega
    · obtain rfl : k = la := by omega
      have hres : xs.any (· == n) = false := by
        rw [List.any_eq_false]
        intro x hx
        obtain ⟨j, hj, rfl⟩ := List.getElem_of_mem hx
        rw [HA.out j _ (by rw [← HX.out]; exact hj) (List.getElem?_eq_getElem hj)]
        decide
      go_wp2
      go_ret
      exact ⟨ret_bool hres.symm, Grow.refl _⟩
def IntsTo (fs : List Int) (w : World) (e : Ending) (w' : World) : Prop := ∃ A len cap, e = .returned (.slice A len cap) ∧ IsSl Kd.int w' (Fresh w.heap.size w') A len cap fs ∧ Grow w w'
theorem iFind_to {fs : List Int} {A B C D : Option Addr} {la ca lb cb lc cc ld cd : Nat} {s : List Table} {db : List Data} (table : Int) {cols : List Int} {key : List Val} (hf : findV s db table cols key = fs) (w : World) (hs : IsSl Kd.table w (· < w.heap.size) A la ca s) (hd : IsSl Kd.data w (· < w.heap.size) B lb cb db)
    (h : IsSl Kd.int w (· < w.heap.size) C lc cc cols) (hk : IsSl Kd.val w (· < w.heap.size) D ld cd key) : Calls Try.prog 37 #[.slice A la ca, .slice B lb cb, .int .i64 table, .slice C lc cc, .slice D ld cd] w (IntsTo fs w) := by
  subst hf; exact iFindRows_any table w hs hd h hk
theorem sFind_to {fs : List Int} {A B C D : Option Addr} {la ca lb cb lc cc ld cd : Nat} {s : List Table} {db : List Data} (table : Int) {cols : List Int} {key : List Val} (hf : findV s db table cols key = fs) (w : World) (hs : IsSl Kd.table w (· < w.heap.size) A la ca s) (hd : IsSl Kd.data w (· < w.heap.size) B lb cb db)
    (h : IsSl Kd.int w (· < w.heap.size) C lc cc cols) (hk : IsSl Kd.val w (· < w.heap.size) D ld cd key) : Calls Try.prog 38 #[.slice A la ca, .slice B lb cb, .int .i64 table, .slice C lc cc, .slice D ld cd] w (IntsTo fs w) := by
  subst hf; exact sFindRows_any table w hs hd h hk
set_option maxRecDepth 20000 in
set_option maxHeartbeats 16000000 in
theorem law_FnFindBoth (A : Option Addr) (len cap : Nat) (xs : List Int) {W : World} (h : IsSl Kd.byte W (· < W.heap.size) A len cap xs) (w : World) (hw : w = W) :
    Calls Try.prog 5 #[.slice A len cap] w (Ret w (.bool true)) := by
  subst hw
  have hl := Nat.le_trans h.2.1 h.2.2.1
  by_cases hbig : 1048576 < len
  · go_enter Try.func5, Try.ntmps5
    go_wp2_with fail
    refine (big_yes _ hl hbig).mono ?_
    rintro e w1 ⟨rfl, rfl⟩
    go_wp2
    go_ret
    exact ⟨rfl, Grow.refl _⟩
  go_enter Try.func5, Try.ntmps5
  go_wp2_with fail
  refine (big_no _ hl hbig).mono ?_
  rintro e w1 ⟨rfl, rfl⟩
  go_wp2_with fail
  refine (drawFindRows_any _ h).mono ?_
  rintro e w1 ⟨A1, B1, C1, D1, n, c, m, d, e1, e2, s, db, z, y, v, rfl, hs, hd, hc, hk, hn3, g1⟩
  clear h
  obtain ⟨fs, hfs⟩ : ∃ fs, findV s db z [y] [v] = fs := ⟨_, rfl⟩
  have HF := Lib.hid hfs
  clear hfs
  go_wp2_with fail
  refine (iFind_to z HF.out _ hs.fresh hd.fresh hc.fresh hk.fresh).mono ?_
  rintro e w2 ⟨A2, l2, c2, rfl, t2, g2⟩
  have G2 := g1.trans g2
  have hs2 := Lib.hid (hs.fresh.grow g2)
  have hd2 := Lib.hid (hd.fresh.grow g2)
  have hc2 := Lib.hid (hc.fresh.grow g2)
  have hk2 := Lib.hid (hk.fresh.grow g2)
  have tf2 := Lib.hid t2.fresh
  clear hs hd hc hk t2
  go_wp2_with fail
  refine wp_region_held_drew (S := (fun w' => Grow w2 w' ∧ Same w2 w')) (by kernel_rfl) (by exact Grow.both (by repeat (with_reducible first | exact Grow.refl _ | assumption | refine Grow.drew ?_ | refine Grow.alloc ?_ _ | refine Grow.set ?_ (by first | exact Nat.le_refl _ | (simp; done) | (simp; omega) | omega) _ | exact And.left (by assumption) | refine Grow.trans ?_ (by assumption)))) (fun hHeld => ?_)
  ((refine held_take (i := 0) 31 (v := ?_) rfl rfl (by kernel_rfl) (by kernel_rfl) (by kernel_rfl) (fun _ _ _ h => h) (by kernel_rfl) ?_ (by assumption) ?_; rotate_left 1; (focus (intro w hSw; (try dsimp only at hSw); go_simp; (try with_reducible rfl); done)); all_goals (try simp only [Act.put, List.setIfInBounds_toArray, List.set_cons_zero, List.set_cons_succ])); (refine held_take (i := 1) 32 (v := ?_) rfl rfl (by kernel_rfl) (by kernel_rfl) (by kernel_rfl) (fun _ _ _ h => h) (by kernel_rfl) ?_ (by assumption) ?_; rotate_left 1; (focus (intro w hSw; (try dsimp only at hSw); go_simp; (try with_reducible rfl); done)); all_goals (try simp only [Act.put, List.setIfInBounds_toArray, List.set_cons_zero, List.set_cons_succ])); (refine held_take (i := 2) 33 (v := ?_) rfl rfl (by kernel_rfl) (by kernel_rfl) (by kernel_rfl) (fun _ _ _ h => h) (by kernel_rfl) ?_ (by assumption) ?_; rotate_left 1; (focus (intro w hSw; (try dsimp only at hSw); go_simp; (try with_reducible rfl); done)); all_goals (try simp only [Act.put, List.setIfInBounds_toArray, List.set_cons_zero, List.set_cons_succ])); (refine held_take (i := 3) 34 (v := ?_) rfl rfl (by kernel_rfl) (by kernel_rfl) (by kernel_rfl) (fun _ _ _ h => h) (by kernel_rfl) ?_ (by assumption) ?_; rotate_left 1; (focus (intro w hSw; (try dsimp only at hSw); go_simp; (try with_reducible rfl); done)); all_goals (try simp only [Act.put, List.setIfInBounds_toArray, List.set_cons_zero, List.set_cons_succ])); (refine held_take (i := 4) 35 (v := ?_) rfl rfl (by kernel_rfl) (by kernel_rfl) (by kernel_rfl) (fun _ _ _ h => h) (by kernel_rfl) ?_ (by assumption) ?_; rotate_left 1; (focus (intro w hSw; (try dsimp only at hSw); go_simp; (try with_reducible rfl); done)); all_goals (try simp only [Act.put, List.setIfInBounds_toArray, List.set_cons_zero, List.set_cons_succ])); (refine held_take (i := 5) 36 (v := ?_) rfl rfl (by kernel_rfl) (by kernel_rfl) (by kernel_rfl) (fun _ _ _ h => h) (by kernel_rfl) ?_ (by assumption) ?_; rotate_left 1; (focus (intro w hSw; (try dsimp only at hSw); go_simp; (try with_reducible rfl); done)); all_goals (try simp only [Act.put, List.setIfInBounds_toArray, List.set_cons_zero, List.set_cons_succ])))
  (refine wpAnyH_ready (rs := [6]) (by kernel_rfl) (by simp) ?_; refine AllReadyH.cons rfl (fun K hK => ?_) AllReadyH.nil; go_simp; (go_at_call 38; refine (sFind_to z HF.out _ (hs2.out.grow (And.left (by assumption))) (hd2.out.grow (And.left (by assumption))) (hc2.out.grow (And.left (by assumption))) (hk2.out.grow (And.left (by assumption)))).mono ?_; rintro e w3 ⟨A3, l3, c3, rfl, t3, g3⟩); refine hK.out _ _ (by exact Grow.both (by repeat (with_reducible first | exact Grow.refl _ | assumption | refine Grow.drew ?_ | refine Grow.alloc ?_ _ | refine Grow.set ?_ (by first | exact Nat.le_refl _ | (simp; done) | (simp; omega) | omega) _ | exact And.left (by assumption) | refine Grow.trans ?_ (by assumption)))) (fun hHeld => ?_); clear hK K; (try refine held_put 37 rfl ?_); (try simp only [Act.put, List.setIfInBounds_toArray, List.set_cons_zero, List.set_cons_succ]))
  (refine wpAnyH_ready (rs := [7]) (by kernel_rfl) (by simp) ?_; refine AllReadyH.cons rfl (fun K hK => ?_) AllReadyH.nil; go_simp; (go_at_call 21; refine (sameInts_same _ (tf2.out.grow (And.left (by assumption))) t3.fresh).mono ?_; rintro e w4 ⟨rfl, g4⟩); refine hK.out _ _ (by exact Grow.both (by repeat (with_reducible first | exact Grow.refl _ | assumption | refine Grow.drew ?_ | refine Grow.alloc ?_ _ | refine Grow.set ?_ (by first | exact Nat.le_refl _ | (simp; done) | (simp; omega) | omega) _ | exact And.left (by assumption) | refine Grow.trans ?_ (by assumption)))) (fun hHeld => ?_); clear hK K; (try refine held_put 38 rfl ?_); (try simp only [Act.put, List.setIfInBounds_toArray, List.set_cons_zero, List.set_cons_succ]))
  ((refine held_take (i := 8) 39 (v := ?_) rfl rfl (by kernel_rfl) (by kernel_rfl) (by kernel_rfl) (fun _ _ _ h => h) (by kernel_rfl) ?_ (by assumption) ?_; rotate_left 1; (focus (intro w hSw; (try dsimp only at hSw); go_simp; (try with_reducible rfl); done)); all_goals (try simp only [Act.put, List.setIfInBounds_toArray, List.set_cons_zero, List.set_cons_succ])); (refine held_take (i := 9) 40 (v := ?_) rfl rfl (by kernel_rfl) (by kernel_rfl) (by kernel_rfl) (fun _ _ _ h => h) (by kernel_rfl) ?_ (by assumption) ?_; rotate_left 1; (focus (intro w hSw; (try dsimp only at hSw); go_simp; (try with_reducible rfl); done)); all_goals (try simp only [Act.put, List.setIfInBounds_toArray, List.set_cons_zero, List.set_cons_succ])); (refine held_take (i := 10) 41 (v := ?_) rfl rfl (by kernel_rfl) (by kernel_rfl) (by kernel_rfl) (fun _ _ _ h => h) (by kernel_rfl) ?_ (by assumption) ?_; rotate_left 1; (focus (intro w hSw; (try dsimp only at hSw); go_simp; (try with_reducible rfl); done)); all_goals (try simp only [Act.put, List.setIfInBounds_toArray, List.set_cons_zero, List.set_cons_succ])); (refine held_take (i := 11) 42 (v := ?_) rfl rfl (by kernel_rfl) (by kernel_rfl) (by kernel_rfl) (fun _ _ _ h => h) (by kernel_rfl) ?_ (by assumption) ?_; rotate_left 1; (focus (intro w hSw; (try dsimp only at hSw); go_simp; (try with_reducible rfl); done)); all_goals (try simp only [Act.put, List.setIfInBounds_toArray, List.set_cons_zero, List.set_cons_succ])); (refine held_take (i := 12) 43 (v := ?_) rfl rfl (by kernel_rfl) (by kernel_rfl) (by kernel_rfl) (fun _ _ _ h => h) (by kernel_rfl) ?_ (by assumption) ?_; rotate_left 1; (focus (intro w hSw; (try dsimp only at hSw); go_simp; (try with_reducible rfl); done)); all_goals (try simp only [Act.put, List.setIfInBounds_toArray, List.set_cons_zero, List.set_cons_succ])); (refine held_take (i := 13) 44 (v := ?_) rfl rfl (by kernel_rfl) (by kernel_rfl) (by kernel_rfl) (fun _ _ _ h => h) (by kernel_rfl) ?_ (by assumption) ?_; rotate_left 1; (focus (intro w hSw; (try dsimp only at hSw); go_simp; (try with_reducible rfl); done)); all_goals (try simp only [Act.put, List.setIfInBounds_toArray, List.set_cons_zero, List.set_cons_succ])); (refine held_take (i := 14) 45 (v := ?_) rfl rfl (by kernel_rfl) (by kernel_rfl) (by kernel_rfl) (fun _ _ _ h => h) (by kernel_rfl) ?_ (by assumption) ?_; rotate_left 1; (focus (intro w hSw; (try dsimp only at hSw); go_simp; (try with_reducible rfl); done)); all_goals (try simp only [Act.put, List.setIfInBounds_toArray, List.set_cons_zero, List.set_cons_succ])))
  (refine held_skip (i := 15) 46 rfl rfl (by kernel_rfl) (by kernel_rfl) (by kernel_rfl) (fun _ _ _ h => h) (by kernel_rfl) (by assumption) ?_; (try simp only [Act.put, List.setIfInBounds_toArray, List.set_cons_zero, List.set_cons_succ]); refine held_skip (i := 16) 47 rfl rfl (by kernel_rfl) (by kernel_rfl) (by kernel_rfl) (fun _ _ _ h => h) (by kernel_rfl) (by assumption) ?_; (try simp only [Act.put, List.setIfInBounds_toArray, List.set_cons_zero, List.set_cons_succ]); refine held_skip (i := 17) 48 rfl rfl (by kernel_rfl) (by kernel_rfl) (by kernel_rfl) (fun _ _ _ h => h) (by kernel_rfl) (by assumption) ?_; (try simp only [Act.put, List.setIfInBounds_toArray, List.set_cons_zero, List.set_cons_succ]))
  ((refine held_take (i := 18) 49 (v := ?_) rfl rfl (by kernel_rfl) (by kernel_rfl) (by kernel_rfl) (fun _ _ _ h => h) (by kernel_rfl) ?_ (by assumption) ?_; rotate_left 1; (focus (intro w hSw; (try dsimp only at hSw); go_simp; (try with_reducible rfl); done)); all_goals (try simp only [Act.put, List.setIfInBounds_toArray, List.set_cons_zero, List.set_cons_succ])); (refine held_take (i := 19) 50 (v := ?_) rfl rfl (by kernel_rfl) (by kernel_rfl) (by kernel_rfl) (fun _ _ _ h => h) (by kernel_rfl) ?_ (by assumption) ?_; rotate_left 1; (focus (intro w hSw; (try dsimp only at hSw); go_simp; (try with_reducible rfl); done)); all_goals (try simp only [Act.put, List.setIfInBounds_toArray, List.set_cons_zero, List.set_cons_succ])))
  (refine held_skip (i := 20) 51 rfl rfl (by kernel_rfl) (by kernel_rfl) (by kernel_rfl) (fun _ _ _ h => h) (by kernel_rfl) (by assumption) ?_; (try simp only [Act.put, List.setIfInBounds_toArray, List.set_cons_zero, List.set_cons_succ]); refine held_skip (i := 21) 52 rfl rfl (by kernel_rfl) (by kernel_rfl) (by kernel_rfl) (fun _ _ _ h => h) (by kernel_rfl) (by assumption) ?_; (try simp only [Act.put, List.setIfInBounds_toArray, List.set_cons_zero, List.set_cons_succ]); refine held_skip (i := 22) 53 rfl rfl (by kernel_rfl) (by kernel_rfl) (by kernel_rfl) (fun _ _ _ h => h) (by kernel_rfl) (by assumption) ?_; (try simp only [Act.put, List.setIfInBounds_toArray, List.set_cons_zero, List.set_cons_succ]); refine held_skip (i := 23) 54 rfl rfl (by kernel_rfl) (by kernel_rfl) (by kernel_rfl) (fun _ _ _ h => h) (by kernel_rfl) (by assumption) ?_; (try simp only [Act.put, List.setIfInBounds_toArray, List.set_cons_zero, List.set_cons_succ]); refine held_skip (i := 24) 55 rfl rfl (by kernel_rfl) (by kernel_rfl) (by kernel_rfl) (fun _ _ _ h => h) (by kernel_rfl) (by assumption) ?_; (try simp only [Act.put, List.setIfInBounds_toArray, List.set_cons_zero, List.set_cons_succ]); refine held_skip (i := 25) 56 rfl rfl (by kernel_rfl) (by kernel_rfl) (by kernel_rfl) (fun _ _ _ h => h) (by kernel_rfl) (by assumption) ?_; (try simp only [Act.put, List.setIfInBounds_toArray, List.set_cons_zero, List.set_cons_succ]); refine held_skip (i := 26) 57 rfl rfl (by kernel_rfl) (by kernel_rfl) (by kernel_rfl) (fun _ _ _ h => h) (by kernel_rfl) (by assumption) ?_; (try simp only [Act.put, List.setIfInBounds_toArray, List.set_cons_zero, List.set_cons_succ]))
  ((refine held_take (i := 27) 58 (v := ?_) rfl rfl (by kernel_rfl) (by kernel_rfl) (by kernel_rfl) (fun _ _ _ h => h) (by kernel_rfl) ?_ (by assumption) ?_; rotate_left 1; (focus (intro w hSw; (try dsimp only at hSw); go_simp; (try with_reducible rfl); done)); all_goals (try simp only [Act.put, List.setIfInBounds_toArray, List.set_cons_zero, List.set_cons_succ])))
  obtain ⟨gX, _⟩ : Grow w2 w4 ∧ Same w2 w4 := by assumption
  refine wpAnyH_done (by kernel_rfl) ?_ _
  go_wp2_with fail
  refine (sFind_to z HF.out _ (hs2.out.grow gX) (hd2.out.grow gX) (hc2.out.grow gX) (hk2.out.grow gX)).mono ?_
  rintro e w5 ⟨A5, l5, c5, rfl, t5, g5⟩
  go_wp2_with fail
  refine (sameInts_same _ (tf2.out.grow (gX.trans g5)) t5.fresh).mono ?_
  rintro e w6 ⟨rfl, g6⟩
  go_wp2
  go_ret
  exact ⟨rfl, G2.trans (gX.trans (g5.trans g6))⟩
end Go.Proofs.Ytjeilgogjoidjaa
