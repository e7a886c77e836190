import Derived.Test.YtonijaniaimgaaaGreatDrawE
import Derived.Test.YtonijaniaimgaaaGreatFit
/-! The law FnRowOk, walked. -/
namespace Go.Proofs.YtonijaniaimgaaaGreat
open Go.RowKit
set_option linter.unusedVariables false
set_option linter.unusedSimpArgs false
theorem isSl_take {α : Type} {k : Kd α} {w : World} {S : Nat → Prop} {A : Option Addr} {n c m : Nat} {xs : List α} (h : IsSl k w S A n c xs) (hm : m ≤ n) (hx : 0 < n) : IsSl k w S A m c (xs.take m) := by
  obtain ⟨h1, h2, h3, h4⟩ := h
  obtain ⟨b, off, hA, hb, hi⟩ := h4 hx
  refine ⟨by rw [List.length_take]; omega, Nat.le_trans hm h2, h3, fun _ => ⟨b, off, hA, hb, fun i hlt => ?_⟩⟩
  have hlt' : i < xs.length := by rw [List.length_take] at hlt; omega
  obtain ⟨cs, hc, hr⟩ := hi i hlt'
  exact ⟨cs, hc, by rw [List.getElem_take]; exact hr⟩
theorem ownsRow_set {w : World} {B p n c : Nat} {E : TypeId} {rows : List Value} (h : w.ownsRow B E 1 (.slice (some ⟨p, 0, none⟩) n c) n rows) (j : Nat) (v : Value) : (w.setCell ⟨p, j, none⟩ v).ownsRow B E 1 (.slice (some ⟨p, 0, none⟩) n c) n (rows.set j v) := by
  obtain ⟨hr, h0 | ⟨g, cap', cur, hv, hB, hh, hle, hmx, hs, ht⟩⟩ := h
  · cases h0.1
  · simp only [Value.slice.injEq, Option.some.injEq, Addr.mk.injEq, and_true, true_and] at hv
    obtain ⟨rfl, rfl⟩ := hv
    exact ⟨by rw [List.length_set]; exact hr, .inr ⟨p, c, _, rfl, hB, put_own hh j v, hle, hmx, by simp [hs], by rw [← ht, Array.toList_setIfInBounds, List.take_set]⟩⟩
theorem any_take {α : Type} (p : α → Bool) {xs : List α} {j : Nat} {x : α} (hx : xs[j]? = some x) : (xs.take (j + 1)).any p = ((xs.take j).any p || p x) := by
  obtain ⟨hj, rfl⟩ := List.getElem?_eq_some_iff.mp hx
  rw [List.take_succ_eq_append_getElem hj, List.any_append]
  simp
theorem drop_take_one {α : Type} {xs : List α} {k : Nat} {x : α} (hx : xs[k]? = some x) : (xs.drop k).take 1 = [x] := by
  obtain ⟨hk, rfl⟩ := List.getElem?_eq_some_iff.mp hx
  rw [List.drop_eq_getElem_cons hk]
  rfl
def FlawsRes5 (q : Bool) (fl : List Flaw) (w : World) (e : Ending) (w' : World) : Prop := ∃ A len cap, e = .returned (.tuple #[.slice A len cap, .bool q]) ∧ IsSl Kd.flaw w' (Fresh w.heap.size w') A len cap fl ∧ Grow w w'
theorem iFlaws_as {q : Bool} {fl : List Flaw} {A B : Option Addr} {la ca lb cb : Nat} {s : List Table} {db : List Data} (hq : dbOkB s db = q) (hf : flawsOf s db = fl) (w : World) (hs : IsSl Kd.table w (· < w.heap.size) A la ca s) (hd : IsSl Kd.data w (· < w.heap.size) B lb cb db) :
    Calls Tryz.prog 23 #[.slice A la ca, .slice B lb cb] w (FlawsRes5 q fl w) := by subst hq; subst hf; exact iFlaws_any w hs hd
theorem iRowOk_eq {r : Bool} {cs : List Value} {t : Table} {B : Option Addr} {lb cb : Nat} {vals : List Val} (hr : rowOkB t vals = r) (w : World) (h : Kd.table.rd w (· < w.heap.size) cs t) (hv : IsSl Kd.val w (· < w.heap.size) B lb cb vals) :
    Calls Tryz.prog 38 #[.agg cs.toArray, .slice B lb cb] w (Ret w (.bool r)) := by subst hr; exact iRowOk_any cs t w h hv
theorem sRowOk_eq {r : Bool} {cs : List Value} {t : Table} {B : Option Addr} {lb cb : Nat} {vals : List Val} (hr : rowOkB t vals = r) (w : World) (h : Kd.table.rd w (· < w.heap.size) cs t) (hv : IsSl Kd.val w (· < w.heap.size) B lb cb vals) :
    Calls Tryz.prog 39 #[.agg cs.toArray, .slice B lb cb] w (Ret w (.bool r)) := by subst hr; exact sRowOk_any cs t w h hv
theorem sDbOkL_eq {A B : Option Addr} {la ca lb cb : Nat} {s : List Table} {db : List Data} {r : Bool} (hr : dbOkB s db = r) (w : World) (hs : IsSl Kd.table w (· < w.heap.size) A la ca s) (hd : IsSl Kd.data w (· < w.heap.size) B lb cb db) :
    Calls Tryz.prog 40 #[.slice A la ca, .slice B lb cb] w (Ret w (.bool r)) := by subst hr; exact sDbOk_any w hs hd
set_option maxRecDepth 20000 in
set_option maxHeartbeats 16000000 in
theorem law_FnRowOk (A : Option Addr) (len cap : Nat) (xs : List Int) {W : World} (h : IsSl Kd.byte W (· < W.heap.size) A len cap xs) (w : World) (hw : w = W) :
    Calls Tryz.prog 8 #[.slice A len cap] w (Ret w (.bool true)) := by
  subst hw
  have hl := Nat.le_trans h.2.1 h.2.2.1
  by_cases hbig : 1048576 < len
  · go_enter Tryz.func8, Tryz.ntmps8
    go_wp2_with fail
    refine (big_yes _ hl hbig).mono ?_
    rintro e w1 ⟨rfl, rfl⟩
    go_wp2
    go_ret
    exact ⟨rfl, Grow.refl _⟩
  go_enter Tryz.func8, Tryz.ntmps8
  go_wp2_with fail
  refine (big_no _ hl hbig).mono ?_
  rintro e w1 ⟨rfl, rfl⟩
  go_wp2_with fail
  refine (drawRowOk_any _ h).mono ?_
  rintro e w1 ⟨cs, t, A1, n1, c1, vs, rfl, ht, hv, g1⟩
  obtain ⟨T0, p0, d0, T1, p1, d1, T2, p2, d2, T3, p3, d3, T4, p4, d4, rfl, hnm⟩ := id ht
  have HT := Lib.hid ht
  have HV := Lib.hid hv
  clear ht hv hnm
  go_wp2_with fail
  generalize hW1 : World.alloc w1 _ = W1
  obtain ⟨gW1, s1, b1⟩ := boxedB hW1
  clear hW1
  refine (drawDbOk_any _ (h.grow (g1.trans gW1))).mono ?_
  rintro e w2 ⟨A2, B2, n, c, m, d, s, db, rfl, hs, hd, hn1, hn3, hm3, hb, hdb, g2⟩
  clear h
  have G2 : Grow w w2 := g1.trans (gW1.trans g2)
  have b2 := (g2.block s1).trans b1
  have s2 := Nat.lt_of_lt_of_le s1 g2.size
  have k0 := (free_of b2).1 0
  have k1 := (free_of b2).1 1
  have k2 := (free_of b2).1 2
  have k3 := (free_of b2).1 3
  have k4 := (free_of b2).1 4
  have k5 := (free_of b2).1 5
  simp only [List.getElem?_toArray, List.getElem?_cons_succ, List.getElem?_cons_zero] at k0 k1 k2 k3 k4 k5
  have gw12 : Grow w1 w2 := gW1.trans g2
  have HT2 : Hid (Kd.table.rd w2 (· < w2.heap.size) [.string t.name, .slice T0 p0 d0, .slice T1 p1 d1, .slice T2 p2 d2, .slice T3 p3 d3, .slice T4 p4 d4] t) := Lib.hid (Kd.table.mono HT.out (fun b hb => Nat.lt_of_lt_of_le hb.2.1 gw12.size) (fun b hb => gw12.block hb.2.1))
  have HV2 := Lib.hid (HV.out.fresh.grow gw12)
  have HS2 := Lib.hid hs.fresh
  have HD2 := Lib.hid hd.fresh
  have hmlen := Lib.hid hd.1
  have hslen := Lib.hid hs.1
  clear hs hd b1 b2
  obtain ⟨r, hr⟩ : ∃ r, rowOkB t vs = r := ⟨_, rfl⟩
  obtain ⟨q, hq⟩ : ∃ q, dbOkB s db = q := ⟨_, rfl⟩
  have HR := Lib.hid hr
  have HQ := Lib.hid hq
  clear hr hq
  go_wp2_with fail
  refine wp_region_held_drew (S := (fun w' => Grow w2 w' ∧ Same w2 w')) (by kernel_rfl) (by exact Grow.both (by repeat (with_reducible first | exact Grow.refl _ | assumption | refine Grow.drew ?_ | refine Grow.alloc ?_ _ | refine Grow.set ?_ (by first | exact Nat.le_refl _ | (simp; done) | (simp; omega) | omega) _ | exact And.left (by assumption) | refine Grow.trans ?_ (by assumption)))) (fun hHeld => ?_)
  ((refine tk 0 26 rfl rfl (v := ?_) ?_ ?_; rotate_left 1; (focus (intro w hSw; (try dsimp only at hSw); go_simp; (try with_reducible rfl); done)); all_goals (try simp only [Act.put, List.setIfInBounds_toArray, List.set_cons_zero, List.set_cons_succ])); (refine tk 1 27 rfl rfl (v := ?_) ?_ ?_; rotate_left 1; (focus (intro w hSw; (try dsimp only at hSw); go_simp; (try with_reducible rfl); done)); all_goals (try simp only [Act.put, List.setIfInBounds_toArray, List.set_cons_zero, List.set_cons_succ])); (refine tk 3 29 rfl rfl (v := ?_) ?_ ?_; rotate_left 1; (focus (intro w hSw; (try dsimp only at hSw); go_simp; (try with_reducible rfl); done)); all_goals (try simp only [Act.put, List.setIfInBounds_toArray, List.set_cons_zero, List.set_cons_succ])); (refine tk 4 30 rfl rfl (v := ?_) ?_ ?_; rotate_left 1; (focus (intro w hSw; (try dsimp only at hSw); go_simp; (try with_reducible rfl); done)); all_goals (try simp only [Act.put, List.setIfInBounds_toArray, List.set_cons_zero, List.set_cons_succ])))
  (refine wpAnyH_ready (rs := [2]) (by kernel_rfl) (by simp) ?_; refine AllReadyH.cons rfl (fun K hK => ?_) AllReadyH.nil; go_simp; (go_at_call 38; refine (iRowOk_eq HR.out _ (Kd.grow Kd.table HT2.out (And.left (by assumption))) (HV2.out.grow (And.left (by assumption)))).mono ?_; rintro e wa ⟨rfl, ha⟩); refine hK.out _ _ (by exact Grow.both (by repeat (with_reducible first | exact Grow.refl _ | assumption | refine Grow.drew ?_ | refine Grow.alloc ?_ _ | refine Grow.set ?_ (by first | exact Nat.le_refl _ | (simp; done) | (simp; omega) | omega) _ | exact And.left (by assumption) | refine Grow.trans ?_ (by assumption)))) (fun hHeld => ?_); clear hK K; (try refine held_put 28 rfl ?_); (try simp only [Act.put, List.setIfInBounds_toArray, List.set_cons_zero, List.set_cons_succ]))
  (refine wpAnyH_ready (rs := [5]) (by kernel_rfl) (by simp) ?_; refine AllReadyH.cons rfl (fun K hK => ?_) AllReadyH.nil; go_simp; (go_at_call 39; refine (sRowOk_eq HR.out _ (Kd.grow Kd.table HT2.out (And.left (by assumption))) (HV2.out.grow (And.left (by assumption)))).mono ?_; rintro e wb ⟨rfl, hb'⟩); refine hK.out _ _ (by exact Grow.both (by repeat (with_reducible first | exact Grow.refl _ | assumption | refine Grow.drew ?_ | refine Grow.alloc ?_ _ | refine Grow.set ?_ (by first | exact Nat.le_refl _ | (simp; done) | (simp; omega) | omega) _ | exact And.left (by assumption) | refine Grow.trans ?_ (by assumption)))) (fun hHeld => ?_); clear hK K; (try refine held_put 31 rfl ?_); (try simp only [Act.put, List.setIfInBounds_toArray, List.set_cons_zero, List.set_cons_succ]))
  ((refine tk 6 32 rfl rfl (v := ?_) ?_ ?_; rotate_left 1; (focus (intro w hSw; (try dsimp only at hSw); go_simp; (try with_reducible rfl); done)); all_goals (try simp only [Act.put, List.setIfInBounds_toArray, List.set_cons_zero, List.set_cons_succ])); (refine tk 7 33 rfl rfl (v := ?_) ?_ ?_; rotate_left 1; (focus (intro w hSw; (try dsimp only at hSw); go_simp; (try with_reducible rfl); done)); all_goals (try simp only [Act.put, List.setIfInBounds_toArray, List.set_cons_zero, List.set_cons_succ])); (refine tk 8 34 rfl rfl (v := ?_) ?_ ?_; rotate_left 1; (focus (intro w hSw; (try dsimp only at hSw); go_simp; (try with_reducible rfl); done)); all_goals (try simp only [Act.put, List.setIfInBounds_toArray, List.set_cons_zero, List.set_cons_succ])); (refine tk 9 35 rfl rfl (v := ?_) ?_ ?_; rotate_left 1; (focus (intro w hSw; (try dsimp only at hSw); go_simp; (try with_reducible rfl); done)); all_goals (try simp only [Act.put, List.setIfInBounds_toArray, List.set_cons_zero, List.set_cons_succ])); (refine tk 11 37 rfl rfl (v := ?_) ?_ ?_; rotate_left 1; (focus (intro w hSw; (try dsimp only at hSw); go_simp; (try with_reducible rfl); done)); all_goals (try simp only [Act.put, List.setIfInBounds_toArray, List.set_cons_zero, List.set_cons_succ])); (refine tk 12 38 rfl rfl (v := ?_) ?_ ?_; rotate_left 1; (focus (intro w hSw; (try dsimp only at hSw); go_simp; (try with_reducible rfl); done)); all_goals (try simp only [Act.put, List.setIfInBounds_toArray, List.set_cons_zero, List.set_cons_succ])))
  (refine wpAnyH_ready (rs := [10]) (by kernel_rfl) (by simp) ?_; refine AllReadyH.cons rfl (fun K hK => ?_) AllReadyH.nil; go_simp; (go_at_call 35; refine (iDbOk_eq HQ.out _ (HS2.out.grow (And.left (by assumption))) (HD2.out.grow (And.left (by assumption)))).mono ?_; rintro e wc' ⟨rfl, hc'⟩); refine hK.out _ _ (by exact Grow.both (by repeat (with_reducible first | exact Grow.refl _ | assumption | refine Grow.drew ?_ | refine Grow.alloc ?_ _ | refine Grow.set ?_ (by first | exact Nat.le_refl _ | (simp; done) | (simp; omega) | omega) _ | exact And.left (by assumption) | refine Grow.trans ?_ (by assumption)))) (fun hHeld => ?_); clear hK K; (try refine held_put 36 rfl ?_); (try simp only [Act.put, List.setIfInBounds_toArray, List.set_cons_zero, List.set_cons_succ]))
  (refine wpAnyH_ready (rs := [13]) (by kernel_rfl) (by simp) ?_; refine AllReadyH.cons rfl (fun K hK => ?_) AllReadyH.nil; go_simp; (go_at_call 40; refine (sDbOkL_eq HQ.out _ (HS2.out.grow (And.left (by assumption))) (HD2.out.grow (And.left (by assumption)))).mono ?_; rintro e wd ⟨rfl, hd'⟩); refine hK.out _ _ (by exact Grow.both (by repeat (with_reducible first | exact Grow.refl _ | assumption | refine Grow.drew ?_ | refine Grow.alloc ?_ _ | refine Grow.set ?_ (by first | exact Nat.le_refl _ | (simp; done) | (simp; omega) | omega) _ | exact And.left (by assumption) | refine Grow.trans ?_ (by assumption)))) (fun hHeld => ?_); clear hK K; (try refine held_put 39 rfl ?_); (try simp only [Act.put, List.setIfInBounds_toArray, List.set_cons_zero, List.set_cons_succ]))
  ((refine tk 14 40 rfl rfl (v := ?_) ?_ ?_; rotate_left 1; (focus (intro w hSw; (try dsimp only at hSw); go_simp; (try with_reducible rfl); done)); all_goals (try simp only [Act.put, List.setIfInBounds_toArray, List.set_cons_zero, List.set_cons_succ])); (refine tk 15 41 rfl rfl (v := ?_) ?_ ?_; rotate_left 1; (focus (intro w hSw; (try dsimp only at hSw); go_simp; (try with_reducible rfl); done)); all_goals (try simp only [Act.put, List.setIfInBounds_toArray, List.set_cons_zero, List.set_cons_succ])); (refine tk 16 42 rfl rfl (v := ?_) ?_ ?_; rotate_left 1; (focus (intro w hSw; (try dsimp only at hSw); go_simp; (try with_reducible rfl); done)); all_goals (try simp only [Act.put, List.setIfInBounds_toArray, List.set_cons_zero, List.set_cons_succ])); (refine tk 17 43 rfl rfl (v := ?_) ?_ ?_; rotate_left 1; (focus (intro w hSw; (try dsimp only at hSw); go_simp; (try with_reducible rfl); done)); all_goals (try simp only [Act.put, List.setIfInBounds_toArray, List.set_cons_zero, List.set_cons_succ])); (refine tk 18 44 rfl rfl (v := ?_) ?_ ?_; rotate_left 1; (focus (intro w hSw; (try dsimp only at hSw); go_simp; (try with_reducible rfl); done)); all_goals (try simp only [Act.put, List.setIfInBounds_toArray, List.set_cons_zero, List.set_cons_succ])))
  (refine wpAnyH_ready (rs := [19]) (by kernel_rfl) (by simp) ?_; refine AllReadyH.cons rfl (fun K hK => ?_) AllReadyH.nil; go_simp; (go_at_call 40; refine (sDbOkL_eq HQ.out _ (HS2.out.grow (And.left (by assumption))) (HD2.out.grow (And.left (by assumption)))).mono ?_; rintro e we ⟨rfl, he'⟩); refine hK.out _ _ (by exact Grow.both (by repeat (with_reducible first | exact Grow.refl _ | assumption | refine Grow.drew ?_ | refine Grow.alloc ?_ _ | refine Grow.set ?_ (by first | exact Nat.le_refl _ | (simp; done) | (simp; omega) | omega) _ | exact And.left (by assumption) | refine Grow.trans ?_ (by assumption)))) (fun hHeld => ?_); clear hK K; (try refine held_put 45 rfl ?_); (try simp only [Act.put, List.setIfInBounds_toArray, List.set_cons_zero, List.set_cons_succ]))
  ((refine tk 20 46 rfl rfl (v := ?_) ?_ ?_; rotate_left 1; (focus (intro w hSw; (try dsimp only at hSw); go_simp; (try with_reducible rfl); done)); all_goals (try simp only [Act.put, List.setIfInBounds_toArray, List.set_cons_zero, List.set_cons_succ])); (refine tk 21 47 rfl rfl (v := ?_) ?_ ?_; rotate_left 1; (focus (intro w hSw; (try dsimp only at hSw); go_simp; (try with_reducible rfl); done)); all_goals (try simp only [Act.put, List.setIfInBounds_toArray, List.set_cons_zero, List.set_cons_succ])))
  obtain ⟨gX, _⟩ : Grow w2 we ∧ Same w2 we := by assumption
  refine wpAnyH_done (by kernel_rfl) ?_ _
  have GX := G2.trans gX
  cases q with
  | false =>
    have j0 := (gX.same _ _ s2).trans k0
    have j1 := (gX.same _ _ s2).trans k1
    have j2 := (gX.same _ _ s2).trans k2
    have j3 := (gX.same _ _ s2).trans k3
    have j4 := (gX.same _ _ s2).trans k4
    have j5 := (gX.same _ _ s2).trans k5
    have s3 := Nat.lt_of_lt_of_le s2 gX.size
    go_wp2_with fail
    refine wp_region_held_drew (S := (fun w' => Grow we w' ∧ Same we w')) (by kernel_rfl) (by exact Grow.both (by repeat (with_reducible first | exact Grow.refl _ | assumption | refine Grow.drew ?_ | refine Grow.alloc ?_ _ | refine Grow.set ?_ (by first | exact Nat.le_refl _ | (simp; done) | (simp; omega) | omega) _ | exact And.left (by assumption) | refine Grow.trans ?_ (by assumption)))) (fun hHeld => ?_)
    ((refine tk 0 48 rfl rfl (v := ?_) ?_ ?_; rotate_left 1; (focus (intro w hSw; (try dsimp only at hSw); go_simp; (try with_reducible rfl); done)); all_goals (try simp only [Act.put, List.setIfInBounds_toArray, List.set_cons_zero, List.set_cons_succ])); (refine tk 1 49 rfl rfl (v := ?_) ?_ ?_; rotate_left 1; (focus (intro w hSw; (try dsimp only at hSw); go_simp; (try with_reducible rfl); done)); all_goals (try simp only [Act.put, List.setIfInBounds_toArray, List.set_cons_zero, List.set_cons_succ])); (refine tk 3 51 rfl rfl (v := ?_) ?_ ?_; rotate_left 1; (focus (intro w hSw; (try dsimp only at hSw); go_simp; (try with_reducible rfl); done)); all_goals (try simp only [Act.put, List.setIfInBounds_toArray, List.set_cons_zero, List.set_cons_succ])); (refine tk 4 52 rfl rfl (v := ?_) ?_ ?_; rotate_left 1; (focus (intro w hSw; (try dsimp only at hSw); go_simp; (try with_reducible rfl); done)); all_goals (try simp only [Act.put, List.setIfInBounds_toArray, List.set_cons_zero, List.set_cons_succ])))
    (refine wpAnyH_ready (rs := [2]) (by kernel_rfl) (by simp) ?_; refine AllReadyH.cons rfl (fun K hK => ?_) AllReadyH.nil; go_simp; (go_at_call 38; refine (iRowOk_eq HR.out _ (Kd.grow Kd.table HT2.out (gX.trans (And.left (by assumption)))) (HV2.out.grow (gX.trans (And.left (by assumption))))).mono ?_; rintro e wa2 ⟨rfl, ha2⟩); refine hK.out _ _ (by exact Grow.both (by repeat (with_reducible first | exact Grow.refl _ | assumption | refine Grow.drew ?_ | refine Grow.alloc ?_ _ | refine Grow.set ?_ (by first | exact Nat.le_refl _ | (simp; done) | (simp; omega) | omega) _ | exact And.left (by assumption) | refine Grow.trans ?_ (by assumption)))) (fun hHeld => ?_); clear hK K; (try refine held_put 50 rfl ?_); (try simp only [Act.put, List.setIfInBounds_toArray, List.set_cons_zero, List.set_cons_succ]))
    (refine wpAnyH_ready (rs := [5]) (by kernel_rfl) (by simp) ?_; refine AllReadyH.cons rfl (fun K hK => ?_) AllReadyH.nil; go_simp; (go_at_call 39; refine (sRowOk_eq HR.out _ (Kd.grow Kd.table HT2.out (gX.trans (And.left (by assumption)))) (HV2.out.grow (gX.trans (And.left (by assumption))))).mono ?_; rintro e wb2 ⟨rfl, hb2⟩); refine hK.out _ _ (by exact Grow.both (by repeat (with_reducible first | exact Grow.refl _ | assumption | refine Grow.drew ?_ | refine Grow.alloc ?_ _ | refine Grow.set ?_ (by first | exact Nat.le_refl _ | (simp; done) | (simp; omega) | omega) _ | exact And.left (by assumption) | refine Grow.trans ?_ (by assumption)))) (fun hHeld => ?_); clear hK K; (try refine held_put 53 rfl ?_); (try simp only [Act.put, List.setIfInBounds_toArray, List.set_cons_zero, List.set_cons_succ]))
    ((refine tk 6 54 rfl rfl (v := ?_) ?_ ?_; rotate_left 1; (focus (intro w hSw; (try dsimp only at hSw); go_simp; (try with_reducible rfl); done)); all_goals (try simp only [Act.put, List.setIfInBounds_toArray, List.set_cons_zero, List.set_cons_succ])); (refine tk 7 55 rfl rfl (v := ?_) ?_ ?_; rotate_left 1; (focus (intro w hSw; (try dsimp only at hSw); go_simp; (try with_reducible rfl); done)); all_goals (try simp only [Act.put, List.setIfInBounds_toArray, List.set_cons_zero, List.set_cons_succ])); (refine tk 8 56 rfl rfl (v := ?_) ?_ ?_; rotate_left 1; (focus (intro w hSw; (try dsimp only at hSw); go_simp; (try with_reducible rfl); done)); all_goals (try simp only [Act.put, List.setIfInBounds_toArray, List.set_cons_zero, List.set_cons_succ])); (refine tk 9 57 rfl rfl (v := ?_) ?_ ?_; rotate_left 1; (focus (intro w hSw; (try dsimp only at hSw); go_simp; (try with_reducible rfl); done)); all_goals (try simp only [Act.put, List.setIfInBounds_toArray, List.set_cons_zero, List.set_cons_succ])); (refine tk 11 59 rfl rfl (v := ?_) ?_ ?_; rotate_left 1; (focus (intro w hSw; (try dsimp only at hSw); go_simp; (try with_reducible rfl); done)); all_goals (try simp only [Act.put, List.setIfInBounds_toArray, List.set_cons_zero, List.set_cons_succ])); (refine tk 12 60 rfl rfl (v := ?_) ?_ ?_; rotate_left 1; (focus (intro w hSw; (try dsimp only at hSw); go_simp; (try with_reducible rfl); done)); all_goals (try simp only [Act.put, List.setIfInBounds_toArray, List.set_cons_zero, List.set_cons_succ])))
    (refine wpAnyH_ready (rs := [10]) (by kernel_rfl) (by simp) ?_; refine AllReadyH.cons rfl (fun K hK => ?_) AllReadyH.nil; go_simp; (go_at_call 35; refine (iDbOk_eq HQ.out _ (HS2.out.grow (gX.trans (And.left (by assumption)))) (HD2.out.grow (gX.trans (And.left (by assumption))))).mono ?_; rintro e wc2 ⟨rfl, hc2⟩); refine hK.out _ _ (by exact Grow.both (by repeat (with_reducible first | exact Grow.refl _ | assumption | refine Grow.drew ?_ | refine Grow.alloc ?_ _ | refine Grow.set ?_ (by first | exact Nat.le_refl _ | (simp; done) | (simp; omega) | omega) _ | exact And.left (by assumption) | refine Grow.trans ?_ (by assumption)))) (fun hHeld => ?_); clear hK K; (try refine held_put 58 rfl ?_); (try simp only [Act.put, List.setIfInBounds_toArray, List.set_cons_zero, List.set_cons_succ]))
    (refine wpAnyH_ready (rs := [13]) (by kernel_rfl) (by simp) ?_; refine AllReadyH.cons rfl (fun K hK => ?_) AllReadyH.nil; go_simp; (go_at_call 40; refine (sDbOkL_eq HQ.out _ (HS2.out.grow (gX.trans (And.left (by assumption)))) (HD2.out.grow (gX.trans (And.left (by assumption))))).mono ?_; rintro e wd2 ⟨rfl, hd2⟩); refine hK.out _ _ (by exact Grow.both (by repeat (with_reducible first | exact Grow.refl _ | assumption | refine Grow.drew ?_ | refine Grow.alloc ?_ _ | refine Grow.set ?_ (by first | exact Nat.le_refl _ | (simp; done) | (simp; omega) | omega) _ | exact And.left (by assumption) | refine Grow.trans ?_ (by assumption)))) (fun hHeld => ?_); clear hK K; (try refine held_put 61 rfl ?_); (try simp only [Act.put, List.setIfInBounds_toArray, List.set_cons_zero, List.set_cons_succ]))
    ((refine tk 14 62 rfl rfl (v := ?_) ?_ ?_; rotate_left 1; (focus (intro w hSw; (try dsimp only at hSw); go_simp; (try with_reducible rfl); done)); all_goals (try simp only [Act.put, List.setIfInBounds_toArray, List.set_cons_zero, List.set_cons_succ])); (refine tk 15 63 rfl rfl (v := ?_) ?_ ?_; rotate_left 1; (focus (intro w hSw; (try dsimp only at hSw); go_simp; (try with_reducible rfl); done)); all_goals (try simp only [Act.put, List.setIfInBounds_toArray, List.set_cons_zero, List.set_cons_succ])))
    ((refine tk 16 2 rfl rfl (v := ?_) ?_ ?_; rotate_left 1; (focus (intro w hSw; (try dsimp only at hSw); go_simp; (try with_reducible rfl); done)); all_goals (try simp only [Act.put, List.setIfInBounds_toArray, List.set_cons_zero, List.set_cons_succ])))
    obtain ⟨gY, _⟩ : Grow we wd2 ∧ Same we wd2 := by assumption
    refine wpAnyH_done (by kernel_rfl) ?_ _
    go_wp2
    go_ret
    exact ⟨rfl, GX.trans gY⟩
  | true =>
    have hmn : m = n := by
      have := HQ.out
      simp only [dbOkB, Bool.and_eq_true] at this
      have := db_len this.2
      rw [hslen.out, hmlen.out] at this
      exact this
    subst hmn
    have HSX := Lib.hid (HS2.out.grow gX)
    have HDX := Lib.hid (HD2.out.grow gX)
    have HB := Lib.hid (show 24 * m ≤ 281474976710656 by omega)
    have HL := Lib.hid (show m ≤ maxLen by unfold maxLen; omega)
    clear k0 k1 k2 k3 k4 k5
    go_wp2
    simp only [Bool.not_true]
    go_loopw [7] (fun iv wr => ∃ i : Nat, i ≤ m ∧ iv = .int .i64 i ∧ Grow we wr) (fun iv _ => m - (intOf iv).toNat)
    case atStart => exact ⟨0, Nat.zero_le _, rfl, Grow.refl _⟩
    case round =>
      obtain ⟨i, hi, rfl, hg⟩ := hrel
      by_cases hlt : i < m
      · have i0 : (0 : Int) ≤ (i : Int) := Int.natCast_nonneg i
        have i1 : (i : Int) < (m : Int) := Int.ofNat_lt.mpr hlt
        obtain ⟨wo, hwo⟩ : ∃ wo, wo = wr := ⟨_, rfl⟩
        rw [← hwo] at hg ⊢
        clear hwo
        go_wp2
        go_loopw [8] (fun kv wr => ∃ k : Nat, k ≤ 60 ∧ kv = .int .i64 k ∧ Grow wo wr) (fun kv _ => 60 - (intOf kv).toNat)
        case atStart => exact ⟨0, Nat.zero_le _, rfl, Grow.refl _⟩
        case round =>
          obtain ⟨k, hk, rfl, hg'⟩ := hrel
          have hgr := hg.trans hg'
          obtain ⟨bD, oD, dd, Ar, Lr, Cr, rfl, hxd, _, hbD, cD, sr, _⟩ := data_at (HDX.out.grow hgr) hlt
          have HXD := Lib.hid hxd.out
          clear hxd
          have hLr : Lr ≤ 60 := by
            obtain ⟨t', ht', h1, h2, h3⟩ := db_table HQ.out HXD.out
            rw [sr.1] at h2; exact h2
          by_cases hltk : k < Lr
          · have k0 : (0 : Int) ≤ (k : Int) := Int.natCast_nonneg k
            have k1 : (k : Int) < (Lr : Int) := Int.ofNat_lt.mpr hltk
            obtain ⟨bR, oR, r', Av, Lv, Cv, rfl, hxr, _, hbR, cR0, cR1, sv, _⟩ := row_at sr hltk
            obtain ⟨bT, oT, t', U0, q0, x0, U1, q1, x1, U2, q2, x2, U3, q3, x3, U4, q4, x4, rfl, hxt, _, hbT, hnm', e0, e1, e2, e3, e4, e5, _, _, _, _, _, hrd⟩ := table_at (HSX.out.grow hgr) hlt
            have HXR := Lib.hid hxr.out
            have HXT := Lib.hid hxt.out
            have HRD := Lib.hid hrd
            have hmem := List.mem_of_getElem? hxr.out
            clear hxr hxt hrd
            obtain ⟨fl, hfl⟩ : ∃ fl, flawsOf s (oneOf s i r') = fl := ⟨_, rfl⟩
            obtain ⟨rb, hrb⟩ : ∃ rb, rowOkB t' r'.vals = rb := ⟨_, rfl⟩
            have HFL := Lib.hid hfl
            have HRB := Lib.hid hrb
            have HONE := Lib.hid (one_ok HQ.out HXD.out HXT.out hmem)
            have HANY : Hid (fl.any (fun x => x.kind != 4) = !rb) := Lib.hid (by rw [← HFL.out, ← HRB.out]; exact one_flaws HQ.out HXD.out HXT.out hmem)
            have hfl2 : fl.length ≤ 1200 := by rw [← hfl]; exact flawsOf_len _ _
            have SR := Lib.hid sr
            have SV := Lib.hid sv
            have hcap : Lr ≤ Cr := sr.2.1
            have hcap2 : Cr ≤ maxLen := sr.2.2.1
            unfold maxLen at hcap2
            obtain ⟨ti, hti, hz0, hz1, hz2⟩ := info_parts info_data
            clear hfl hrb sr sv hmem
            go_upto_region 14 with (at_make; refine wpList_make_full _ rfl _ _ 29 rfl wr.heap.size 62 ti _ 1 Tryz.underlying29 hti hz0 hz1 .i64 .i64 _ _ m rfl rfl rfl rfl (by rw [hz2]; exact HB.out) HL.out (Nat.le_refl _) ?_; intro w0 hown hgrow)
            have hG0 : Grow wr w0 := Below.grown (Below.refl _ _) hgrow (Nat.le_refl _) (fun k hk => by cases hk)
            have hcells : ∃ rows, w0.ownsRow wr.heap.size 62 1 (.slice (some ⟨wr.heap.size, 0, none⟩) m m) m rows ∧ rows = List.replicate m (.slice none 0 0) := ⟨_, hown, by
              apply List.ext_getElem?
              intro j
              rw [Array.getElem?_toList, madeCells, List.getElem?_replicate]
              by_cases hj : j < m
              · simp [hj, Value.cells, Nat.mod_one]
              · simp [hj]⟩
            clear hown hgrow hti hz0 hz1 hz2
            obtain ⟨rows0, hown, rfl⟩ := hcells
            obtain ⟨hD1, cD1, fD1⟩ : wr.heap.size < w0.heap.size ∧ w0.cell? ⟨wr.heap.size, i, none⟩ = some (.slice none 0 0) ∧ ∀ o, w0.frozen? ⟨wr.heap.size, o, none⟩ = false := by
              obtain ⟨_, h0 | ⟨p, cap, cur, hv, _, hh, _, _, hs', ht⟩⟩ := hown
              · cases h0.1
              · simp only [Value.slice.injEq, Option.some.injEq, Addr.mk.injEq, and_true, true_and] at hv
                obtain ⟨rfl, rfl⟩ := hv
                refine ⟨?_, ?_, (free_of hh).2⟩
                · rcases Nat.lt_or_ge wr.heap.size w0.heap.size with h' | h'
                  · exact h'
                  · simp [Array.getElem?_eq_none h'] at hh
                · rw [cell_of hh, ← Array.getElem?_toList, ← List.getElem?_take_of_lt (j := m * 1) (by omega), ht, List.getElem?_replicate, if_pos hlt]
            have cD' := (hG0.same _ _ hbD).trans cD
            have hbD' := Nat.lt_of_lt_of_le hbD hG0.size
            have k2 : (k : Int) + 1 ≤ (Lr : Int) := by omega
            have k3 : (k : Int) ≤ (k : Int) + 1 := by omega
            have k4 : IntKind.i64.wrap ((k : Int) + 1) = (k : Int) + 1 := IntWalk.i64_in _ (by omega)
            have k5 : (k : Int) + 1 ≤ (Cr : Int) := by omega
            go_wp2_with fail
            obtain ⟨X, hX⟩ : ∃ X, w0.setCell ⟨wr.heap.size, i, none⟩ (.slice (some ⟨bR, oR + k * 2, none⟩) 1 (Cr - k)) = X := ⟨_, rfl⟩
            have ownX := ownsRow_set hown i (.slice (some ⟨bR, oR + k * 2, none⟩) 1 (Cr - k))
            have gX1 : Grow wr (w0.setCell ⟨wr.heap.size, i, none⟩ (.slice (some ⟨bR, oR + k * 2, none⟩) 1 (Cr - k))) := hG0.set (Nat.le_refl _) _
            rw [hX] at ownX gX1 ⊢
            clear hX hown cD1 fD1 hD1 cD' hbD'
            have SR1 : IsSl Kd.row X (· < X.heap.size) (some ⟨bR, oR + k * 2, none⟩) 1 (Cr - k) [r'] := by
              have h1 := isSl_take (m := 1) (((SR.out.grow gX1).drop (d := k) (by omega))) (by omega) (by omega)
              rw [drop_take_one HXR.out] at h1
              exact h1
            have ONE : IsSl Kd.data X (· < X.heap.size) (some ⟨wr.heap.size, 0, none⟩) m m (oneOf s i r') := by
              refine own_isSl (k := Kd.data) (S := (· < X.heap.size)) ownX ?_ (by simp [oneOf, hslen.out]) (fun _ h => h) (fun b _ h _ => h)
              have hf := flat_set (k := Kd.data) (j := 0) (by decide) (.slice (some ⟨bR, oR + k * 2, none⟩) 1 (Cr - k)) (y := (⟨[r']⟩ : Data)) (i := i) (x := ⟨[]⟩) (flat_zero X (· < X.heap.size) m) (by rw [List.getElem?_replicate, if_pos hlt]) (fun cs hr => by
                obtain ⟨_, _, _, rfl, _⟩ := hr
                exact ⟨_, _, _, rfl, SR1⟩)
              have he : i * Kd.data.n + 0 = i := by show i * 1 + 0 = i; omega
              rw [he] at hf
              unfold oneOf
              rw [hslen.out]
              exact hf
            refine (iFlaws_as HONE.out HFL.out X (HSX.out.grow (hgr.trans gX1)) ONE).mono ?_
            rintro e wq ⟨Al, nl, cl, rfl, hfls, gq⟩
            have hnl : fl.length = nl := hfls.1
            have HFS := Lib.hid hfls.fresh
            have gq2 := gX1.trans gq
            clear ONE SR1 ownX hfls
            go_wp2
            go_loopw [12, 13] (fun bv jv w5 => ∃ (j : Nat), j ≤ nl ∧ jv = .int .i64 j ∧ bv = .bool ((fl.take j).any (fun x => x.kind != 4)) ∧ Grow wq w5) (fun _ jv _ => nl - (intOf jv).toNat)
            case atStart => exact ⟨0, Nat.zero_le _, rfl, rfl, Grow.refl _⟩
            case round =>
              obtain ⟨j, hj, rfl, rfl, hg5⟩ := hrel
              by_cases hltj : j < nl
              · have j0 : (0 : Int) ≤ (j : Int) := Int.natCast_nonneg j
                have j1 : (j : Int) < (nl : Int) := Int.ofNat_lt.mpr hltj
                obtain ⟨bF, oF, x, rfl, hxx, _, hbF, f0, f1, f2, _⟩ := flaw_at (HFS.out.grow hg5) hltj
                have HST : Hid ((fl.take (j + 1)).any (fun x => x.kind != 4) = ((fl.take j).any (fun x => x.kind != 4) || x.kind != 4)) := Lib.hid (any_take _ hxx.out)
                clear hxx
                obtain ⟨b, hb⟩ : ∃ b, (fl.take j).any (fun x => x.kind != 4) = b := ⟨_, rfl⟩
                rw [hb] at HST ⊢
                clear hb
                cases b with
                | true =>
                  go_wp2
                  go_roundw
                  case rel => exact ⟨j + 1, by omega, by go_num, by rw [HST.out]; rfl, hg5⟩
                  case measure => simp [intOf]; omega
                | false =>
                  go_wp2
                  go_roundw
                  case rel => exact ⟨j + 1, by omega, by go_num, by rw [HST.out]; simp [bne], hg5⟩
                  case measure => simp [intOf]; omega
              · obtain rfl : j = nl := by omega
                have gz := gq2.trans hg5
                have hgz := hgr.trans gz
                have E0 := (gz.same _ _ hbT).trans e0
                have E1 := (gz.same _ _ hbT).trans e1
                have E2 := (gz.same _ _ hbT).trans e2
                have E3 := (gz.same _ _ hbT).trans e3
                have E4 := (gz.same _ _ hbT).trans e4
                have E5 := (gz.same _ _ hbT).trans e5
                have CD := (gz.same _ _ hbD).trans cD
                have CR0 := (gz.same _ _ hbR).trans cR0
                have CR1 := (gz.same _ _ hbR).trans cR1
                have hbT2 := Nat.lt_of_lt_of_le hbT gz.size
                have hbD2 := Nat.lt_of_lt_of_le hbD gz.size
                have hbR2 := Nat.lt_of_lt_of_le hbR gz.size
                have GZ := Lib.hid gz
                cases rb with
                | false =>
                  have hall : (fl.take j).any (fun x => x.kind != 4) = true := by rw [List.take_of_length_le (by omega), HANY.out]; rfl
                  rw [hall]
                  clear hall HANY
                  go_wp2_with fail
                  refine wp_region_held_drew (S := (fun w' => Grow wr w' ∧ Same wr w')) (by kernel_rfl) (by exact Grow.both (by repeat (with_reducible first | exact Grow.refl _ | assumption | refine Grow.drew ?_ | refine Grow.alloc ?_ _ | refine Grow.set ?_ (by first | exact Nat.le_refl _ | (simp; done) | (simp; omega) | omega) _ | exact And.left (by assumption) | refine Grow.trans ?_ (by assumption)))) (fun hHeld => ?_)
                  ((refine tk 0 117 rfl rfl (v := ?_) ?_ ?_; rotate_left 1; (focus (intro w hSw; (try dsimp only at hSw); go_simp; (try with_reducible rfl); done)); all_goals (try simp only [Act.put, List.setIfInBounds_toArray, List.set_cons_zero, List.set_cons_succ])); (refine tk 1 118 rfl rfl (v := ?_) ?_ ?_; rotate_left 1; (focus (intro w hSw; (try dsimp only at hSw); go_simp; (try with_reducible rfl); done)); all_goals (try simp only [Act.put, List.setIfInBounds_toArray, List.set_cons_zero, List.set_cons_succ])); (refine tk 2 119 rfl rfl (v := ?_) ?_ ?_; rotate_left 1; (focus (intro w hSw; (try dsimp only at hSw); go_simp; (try with_reducible rfl); done)); all_goals (try simp only [Act.put, List.setIfInBounds_toArray, List.set_cons_zero, List.set_cons_succ])); (refine tk 3 120 rfl rfl (v := ?_) ?_ ?_; rotate_left 1; (focus (intro w hSw; (try dsimp only at hSw); go_simp; (try with_reducible rfl); done)); all_goals (try simp only [Act.put, List.setIfInBounds_toArray, List.set_cons_zero, List.set_cons_succ])); (refine tk 4 121 rfl rfl (v := ?_) ?_ ?_; rotate_left 1; (focus (intro w hSw; (try dsimp only at hSw); go_simp; (try with_reducible rfl); done)); all_goals (try simp only [Act.put, List.setIfInBounds_toArray, List.set_cons_zero, List.set_cons_succ])); (refine tk 5 122 rfl rfl (v := ?_) ?_ ?_; rotate_left 1; (focus (intro w hSw; (try dsimp only at hSw); go_simp; (try with_reducible rfl); done)); all_goals (try simp only [Act.put, List.setIfInBounds_toArray, List.set_cons_zero, List.set_cons_succ])); (refine tk 6 123 rfl rfl (v := ?_) ?_ ?_; rotate_left 1; (focus (intro w hSw; (try dsimp only at hSw); go_simp; (try with_reducible rfl); done)); all_goals (try simp only [Act.put, List.setIfInBounds_toArray, List.set_cons_zero, List.set_cons_succ])); (refine tk 7 124 rfl rfl (v := ?_) ?_ ?_; rotate_left 1; (focus (intro w hSw; (try dsimp only at hSw); go_simp; (try with_reducible rfl); done)); all_goals (try simp only [Act.put, List.setIfInBounds_toArray, List.set_cons_zero, List.set_cons_succ])); (refine tk 8 125 rfl rfl (v := ?_) ?_ ?_; rotate_left 1; (focus (intro w hSw; (try dsimp only at hSw); go_simp; (try with_reducible rfl); done)); all_goals (try simp only [Act.put, List.setIfInBounds_toArray, List.set_cons_zero, List.set_cons_succ])); (refine tk 9 126 rfl rfl (v := ?_) ?_ ?_; rotate_left 1; (focus (intro w hSw; (try dsimp only at hSw); go_simp; (try with_reducible rfl); done)); all_goals (try simp only [Act.put, List.setIfInBounds_toArray, List.set_cons_zero, List.set_cons_succ])); (refine tk 10 127 rfl rfl (v := ?_) ?_ ?_; rotate_left 1; (focus (intro w hSw; (try dsimp only at hSw); go_simp; (try with_reducible rfl); done)); all_goals (try simp only [Act.put, List.setIfInBounds_toArray, List.set_cons_zero, List.set_cons_succ])); (refine tk 11 128 rfl rfl (v := ?_) ?_ ?_; rotate_left 1; (focus (intro w hSw; (try dsimp only at hSw); go_simp; (try with_reducible rfl); done)); all_goals (try simp only [Act.put, List.setIfInBounds_toArray, List.set_cons_zero, List.set_cons_succ])); (refine tk 12 129 rfl rfl (v := ?_) ?_ ?_; rotate_left 1; (focus (intro w hSw; (try dsimp only at hSw); go_simp; (try with_reducible rfl); done)); all_goals (try simp only [Act.put, List.setIfInBounds_toArray, List.set_cons_zero, List.set_cons_succ])); (refine tk 13 130 rfl rfl (v := ?_) ?_ ?_; rotate_left 1; (focus (intro w hSw; (try dsimp only at hSw); go_simp; (try with_reducible rfl); done)); all_goals (try simp only [Act.put, List.setIfInBounds_toArray, List.set_cons_zero, List.set_cons_succ])); (refine tk 14 131 rfl rfl (v := ?_) ?_ ?_; rotate_left 1; (focus (intro w hSw; (try dsimp only at hSw); go_simp; (try with_reducible rfl); done)); all_goals (try simp only [Act.put, List.setIfInBounds_toArray, List.set_cons_zero, List.set_cons_succ])); (refine tk 15 132 rfl rfl (v := ?_) ?_ ?_; rotate_left 1; (focus (intro w hSw; (try dsimp only at hSw); go_simp; (try with_reducible rfl); done)); all_goals (try simp only [Act.put, List.setIfInBounds_toArray, List.set_cons_zero, List.set_cons_succ])); (refine tk 17 134 rfl rfl (v := ?_) ?_ ?_; rotate_left 1; (focus (intro w hSw; (try dsimp only at hSw); go_simp; (try with_reducible rfl); done)); all_goals (try simp only [Act.put, List.setIfInBounds_toArray, List.set_cons_zero, List.set_cons_succ])))
                  (refine wpAnyH_ready (rs := [16]) (by kernel_rfl) (by simp) ?_; refine AllReadyH.cons rfl (fun K hK => ?_) AllReadyH.nil; go_simp; (go_at_call 38; refine (iRowOk_eq HRB.out _ (Kd.grow Kd.table HRD.out (GZ.out.trans (And.left (by assumption)))) (SV.out.grow (GZ.out.trans (And.left (by assumption))))).mono ?_; rintro e wy ⟨rfl, hy⟩); refine hK.out _ _ (by exact Grow.both (by repeat (with_reducible first | exact Grow.refl _ | assumption | refine Grow.drew ?_ | refine Grow.alloc ?_ _ | refine Grow.set ?_ (by first | exact Nat.le_refl _ | (simp; done) | (simp; omega) | omega) _ | exact And.left (by assumption) | refine Grow.trans ?_ (by assumption)))) (fun hHeld => ?_); clear hK K; (try refine held_put 133 rfl ?_); (try simp only [Act.put, List.setIfInBounds_toArray, List.set_cons_zero, List.set_cons_succ]))
                  ((refine tk 18 135 rfl rfl (v := ?_) ?_ ?_; rotate_left 1; (focus (intro w hSw; (try dsimp only at hSw); go_simp; (try with_reducible rfl); done)); all_goals (try simp only [Act.put, List.setIfInBounds_toArray, List.set_cons_zero, List.set_cons_succ])); (refine tk 19 136 rfl rfl (v := ?_) ?_ ?_; rotate_left 1; (focus (intro w hSw; (try dsimp only at hSw); go_simp; (try with_reducible rfl); done)); all_goals (try simp only [Act.put, List.setIfInBounds_toArray, List.set_cons_zero, List.set_cons_succ])))
                  obtain ⟨gY, _⟩ : Grow wr wy ∧ Same wr wy := by assumption
                  refine wpAnyH_done (by kernel_rfl) ?_ _
                  go_wp2
                  go_roundw
                  case rel => exact ⟨k + 1, by omega, by go_num, hg'.trans (GZ.out.trans gY)⟩
                  case measure => simp [intOf]; omega
                | true =>
                  have hall : (fl.take j).any (fun x => x.kind != 4) = false := by rw [List.take_of_length_le (by omega), HANY.out]; rfl
                  rw [hall]
                  clear hall HANY
                  go_wp2_with fail
                  refine wp_region_held_drew (S := (fun w' => Grow wr w' ∧ Same wr w')) (by kernel_rfl) (by exact Grow.both (by repeat (with_reducible first | exact Grow.refl _ | assumption | refine Grow.drew ?_ | refine Grow.alloc ?_ _ | refine Grow.set ?_ (by first | exact Nat.le_refl _ | (simp; done) | (simp; omega) | omega) _ | exact And.left (by assumption) | refine Grow.trans ?_ (by assumption)))) (fun hHeld => ?_)
                  ((refine tk 0 117 rfl rfl (v := ?_) ?_ ?_; rotate_left 1; (focus (intro w hSw; (try dsimp only at hSw); go_simp; (try with_reducible rfl); done)); all_goals (try simp only [Act.put, List.setIfInBounds_toArray, List.set_cons_zero, List.set_cons_succ])); (refine tk 1 118 rfl rfl (v := ?_) ?_ ?_; rotate_left 1; (focus (intro w hSw; (try dsimp only at hSw); go_simp; (try with_reducible rfl); done)); all_goals (try simp only [Act.put, List.setIfInBounds_toArray, List.set_cons_zero, List.set_cons_succ])); (refine tk 2 119 rfl rfl (v := ?_) ?_ ?_; rotate_left 1; (focus (intro w hSw; (try dsimp only at hSw); go_simp; (try with_reducible rfl); done)); all_goals (try simp only [Act.put, List.setIfInBounds_toArray, List.set_cons_zero, List.set_cons_succ])); (refine tk 3 120 rfl rfl (v := ?_) ?_ ?_; rotate_left 1; (focus (intro w hSw; (try dsimp only at hSw); go_simp; (try with_reducible rfl); done)); all_goals (try simp only [Act.put, List.setIfInBounds_toArray, List.set_cons_zero, List.set_cons_succ])); (refine tk 4 121 rfl rfl (v := ?_) ?_ ?_; rotate_left 1; (focus (intro w hSw; (try dsimp only at hSw); go_simp; (try with_reducible rfl); done)); all_goals (try simp only [Act.put, List.setIfInBounds_toArray, List.set_cons_zero, List.set_cons_succ])); (refine tk 5 122 rfl rfl (v := ?_) ?_ ?_; rotate_left 1; (focus (intro w hSw; (try dsimp only at hSw); go_simp; (try with_reducible rfl); done)); all_goals (try simp only [Act.put, List.setIfInBounds_toArray, List.set_cons_zero, List.set_cons_succ])); (refine tk 6 123 rfl rfl (v := ?_) ?_ ?_; rotate_left 1; (focus (intro w hSw; (try dsimp only at hSw); go_simp; (try with_reducible rfl); done)); all_goals (try simp only [Act.put, List.setIfInBounds_toArray, List.set_cons_zero, List.set_cons_succ])); (refine tk 7 124 rfl rfl (v := ?_) ?_ ?_; rotate_left 1; (focus (intro w hSw; (try dsimp only at hSw); go_simp; (try with_reducible rfl); done)); all_goals (try simp only [Act.put, List.setIfInBounds_toArray, List.set_cons_zero, List.set_cons_succ])); (refine tk 8 125 rfl rfl (v := ?_) ?_ ?_; rotate_left 1; (focus (intro w hSw; (try dsimp only at hSw); go_simp; (try with_reducible rfl); done)); all_goals (try simp only [Act.put, List.setIfInBounds_toArray, List.set_cons_zero, List.set_cons_succ])); (refine tk 9 126 rfl rfl (v := ?_) ?_ ?_; rotate_left 1; (focus (intro w hSw; (try dsimp only at hSw); go_simp; (try with_reducible rfl); done)); all_goals (try simp only [Act.put, List.setIfInBounds_toArray, List.set_cons_zero, List.set_cons_succ])); (refine tk 10 127 rfl rfl (v := ?_) ?_ ?_; rotate_left 1; (focus (intro w hSw; (try dsimp only at hSw); go_simp; (try with_reducible rfl); done)); all_goals (try simp only [Act.put, List.setIfInBounds_toArray, List.set_cons_zero, List.set_cons_succ])); (refine tk 11 128 rfl rfl (v := ?_) ?_ ?_; rotate_left 1; (focus (intro w hSw; (try dsimp only at hSw); go_simp; (try with_reducible rfl); done)); all_goals (try simp only [Act.put, List.setIfInBounds_toArray, List.set_cons_zero, List.set_cons_succ])); (refine tk 12 129 rfl rfl (v := ?_) ?_ ?_; rotate_left 1; (focus (intro w hSw; (try dsimp only at hSw); go_simp; (try with_reducible rfl); done)); all_goals (try simp only [Act.put, List.setIfInBounds_toArray, List.set_cons_zero, List.set_cons_succ])); (refine tk 13 130 rfl rfl (v := ?_) ?_ ?_; rotate_left 1; (focus (intro w hSw; (try dsimp only at hSw); go_simp; (try with_reducible rfl); done)); all_goals (try simp only [Act.put, List.setIfInBounds_toArray, List.set_cons_zero, List.set_cons_succ])); (refine tk 14 131 rfl rfl (v := ?_) ?_ ?_; rotate_left 1; (focus (intro w hSw; (try dsimp only at hSw); go_simp; (try with_reducible rfl); done)); all_goals (try simp only [Act.put, List.setIfInBounds_toArray, List.set_cons_zero, List.set_cons_succ])); (refine tk 15 132 rfl rfl (v := ?_) ?_ ?_; rotate_left 1; (focus (intro w hSw; (try dsimp only at hSw); go_simp; (try with_reducible rfl); done)); all_goals (try simp only [Act.put, List.setIfInBounds_toArray, List.set_cons_zero, List.set_cons_succ])); (refine tk 17 134 rfl rfl (v := ?_) ?_ ?_; rotate_left 1; (focus (intro w hSw; (try dsimp only at hSw); go_simp; (try with_reducible rfl); done)); all_goals (try simp only [Act.put, List.setIfInBounds_toArray, List.set_cons_zero, List.set_cons_succ])))
                  (refine wpAnyH_ready (rs := [16]) (by kernel_rfl) (by simp) ?_; refine AllReadyH.cons rfl (fun K hK => ?_) AllReadyH.nil; go_simp; (go_at_call 38; refine (iRowOk_eq HRB.out _ (Kd.grow Kd.table HRD.out (GZ.out.trans (And.left (by assumption)))) (SV.out.grow (GZ.out.trans (And.left (by assumption))))).mono ?_; rintro e wy ⟨rfl, hy⟩); refine hK.out _ _ (by exact Grow.both (by repeat (with_reducible first | exact Grow.refl _ | assumption | refine Grow.drew ?_ | refine Grow.alloc ?_ _ | refine Grow.set ?_ (by first | exact Nat.le_refl _ | (simp; done) | (simp; omega) | omega) _ | exact And.left (by assumption) | refine Grow.trans ?_ (by assumption)))) (fun hHeld => ?_); clear hK K; (try refine held_put 133 rfl ?_); (try simp only [Act.put, List.setIfInBounds_toArray, List.set_cons_zero, List.set_cons_succ]))
                  ((refine tk 18 135 rfl rfl (v := ?_) ?_ ?_; rotate_left 1; (focus (intro w hSw; (try dsimp only at hSw); go_simp; (try with_reducible rfl); done)); all_goals (try simp only [Act.put, List.setIfInBounds_toArray, List.set_cons_zero, List.set_cons_succ])); (refine tk 19 136 rfl rfl (v := ?_) ?_ ?_; rotate_left 1; (focus (intro w hSw; (try dsimp only at hSw); go_simp; (try with_reducible rfl); done)); all_goals (try simp only [Act.put, List.setIfInBounds_toArray, List.set_cons_zero, List.set_cons_succ])))
                  obtain ⟨gY, _⟩ : Grow wr wy ∧ Same wr wy := by assumption
                  refine wpAnyH_done (by kernel_rfl) ?_ _
                  go_wp2
                  go_roundw
                  case rel => exact ⟨k + 1, by omega, by go_num, hg'.trans (GZ.out.trans gY)⟩
                  case measure => simp [intOf]; omega
          · go_wp2
            go_roundw
            case rel => exact ⟨i + 1, by omega, by go_num, hgr⟩
            case measure => simp [intOf]; omega
      · go_wp2
        go_ret
        exact ⟨rfl, GX.trans hg⟩
end Go.Proofs.YtonijaniaimgaaaGreat
