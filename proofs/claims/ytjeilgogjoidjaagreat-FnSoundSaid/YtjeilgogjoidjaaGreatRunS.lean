import Derived.Test.YtjeilgogjoidjaaGreatRun
/-! Evaluation, as the reference does it. -/
namespace Go.Proofs.YtjeilgogjoidjaaGreat
open Go.RowKit
set_option linter.unusedVariables false
set_option linter.unusedSimpArgs false
def ofT (v : Val) : Int := if v.kind = 0 then 2 else if v.kind = 1 then (if v.n = 0 then 0 else 1) else 0
def ofOk (v : Val) : Bool := decide (v.kind = 0) || decide (v.kind = 1)
def asV (t : Int) : Val := if t = 2 then vNull else vInt t
theorem truthV_of {v : Val} : truthV v = if ofOk v then ofT v else -1 := by
  unfold truthV ofOk ofT
  by_cases h0 : v.kind = 0
  · simp [h0]
  · by_cases h1 : v.kind = 1 <;> simp [h0, h1]
theorem ofT_in (v : Val) : ofT v = 0 ∨ ofT v = 1 ∨ ofT v = 2 := by unfold ofT; split <;> (try split) <;> (try split) <;> omega
theorem valT_as {t : Int} (h : t = 0 ∨ t = 1 ∨ t = 2) : valT t = some (asV t) := by rcases h with rfl | rfl | rfl <;> rfl
theorem eq3_pos (a b : Val) : eq3 a b = 0 ∨ eq3 a b = 1 ∨ eq3 a b = 2 := by unfold eq3; split <;> (try split) <;> omega
theorem less3_pos (a b : Val) : less3 a b = 0 ∨ less3 a b = 1 ∨ less3 a b = 2 := by unfold less3; split <;> (try split) <;> omega
theorem l1IntV_any (n : Int) (w : World) : Calls Tryz.prog 72 #[.int .i64 n] w (Ret w (.agg #[.int .i64 1, .int .i64 n, .string ⟨#[]⟩])) := by
  go_enter Tryz.func72, Tryz.ntmps72
  go_wp2
  refine bodyPost_ret (v := .agg #[.int .i64 1, .int .i64 n, .string ⟨#[]⟩]) (by simp [results, Tryz.results72, go_sem]) rfl ⟨rfl, (Grow.refl _).alloc _⟩
theorem l2Of_any (k n : Int) (s : ByteArray) (w : World) : Calls Tryz.prog 165 #[.agg #[.int .i64 k, .int .i64 n, .string s]] w (Ret w (.tuple #[.int .i64 (ofT ⟨k, n, s⟩), .bool (ofOk ⟨k, n, s⟩)])) := by
  by_cases h0 : k = 0
  · subst h0
    go_enter Tryz.func165, Tryz.ntmps165
    go_wp2_with (first | (go_at_call 177; (with_reducible refine (l1Yes_any _ _).mono ?_); rintro e w1 ⟨rfl, rfl⟩))
    exact bodyPost_ret (v := .tuple #[.int .i64 2, .bool true]) (by simp [results, Tryz.results165, go_sem]) rfl ⟨rfl, (by repeat (with_reducible first | exact Grow.refl _ | assumption | refine Grow.drew ?_ | refine Grow.alloc ?_ _ | refine Grow.set ?_ (by first | exact Nat.le_refl _ | (simp; done) | (simp; omega) | omega) _ | exact And.left (by assumption) | refine Grow.trans ?_ (by assumption)))⟩
  by_cases h1 : k = 1
  · subst h1
    by_cases hn : n = 0
    · subst hn
      go_enter Tryz.func165, Tryz.ntmps165
      go_wp2_with (first | (go_at_call 177; (with_reducible refine (l1Yes_any _ _).mono ?_); rintro e w1 ⟨rfl, rfl⟩))
      exact bodyPost_ret (v := .tuple #[.int .i64 0, .bool true]) (by simp [results, Tryz.results165, go_sem]) rfl ⟨rfl, (by repeat (with_reducible first | exact Grow.refl _ | assumption | refine Grow.drew ?_ | refine Grow.alloc ?_ _ | refine Grow.set ?_ (by first | exact Nat.le_refl _ | (simp; done) | (simp; omega) | omega) _ | exact And.left (by assumption) | refine Grow.trans ?_ (by assumption)))⟩
    · have hnb : (n != 0) = true := by simpa using hn
      have ht := Lib.hid (show ofT ⟨1, n, s⟩ = 1 by simp [ofT, hn])
      go_enter Tryz.func165, Tryz.ntmps165
      go_wp2_with (first | (go_at_call 177; (with_reducible refine (l1Yes_any _ _).mono ?_); rintro e w1 ⟨rfl, rfl⟩))
      exact bodyPost_ret (v := .tuple #[.int .i64 1, .bool true]) (by simp [results, Tryz.results165, go_sem]) rfl ⟨by rw [ht.out]; rfl, (by repeat (with_reducible first | exact Grow.refl _ | assumption | refine Grow.drew ?_ | refine Grow.alloc ?_ _ | refine Grow.set ?_ (by first | exact Nat.le_refl _ | (simp; done) | (simp; omega) | omega) _ | exact And.left (by assumption) | refine Grow.trans ?_ (by assumption)))⟩
  · have hb0 : (k == 0) = false := by simpa using h0
    have hb1 : (k == 1) = false := by simpa using h1
    have ht := Lib.hid (show ofT ⟨k, n, s⟩ = 0 by simp [ofT, h0, h1])
    have hk := Lib.hid (show ofOk ⟨k, n, s⟩ = false by simp [ofOk, h0, h1])
    go_enter Tryz.func165, Tryz.ntmps165
    go_wp2
    exact bodyPost_ret (v := .tuple #[.int .i64 0, .bool false]) (by simp [results, Tryz.results165, go_sem]) rfl ⟨by rw [ht.out, hk.out], (by repeat (with_reducible first | exact Grow.refl _ | assumption | refine Grow.drew ?_ | refine Grow.alloc ?_ _ | refine Grow.set ?_ (by first | exact Nat.le_refl _ | (simp; done) | (simp; omega) | omega) _ | exact And.left (by assumption) | refine Grow.trans ?_ (by assumption)))⟩
theorem l2As_any (t : Int) (w : World) : Calls Tryz.prog 178 #[.int .i64 t] w (Ret w (.agg #[.int .i64 (asV t).kind, .int .i64 (asV t).n, .string (asV t).s])) := by
  by_cases h : t = 2
  · subst h
    go_enter Tryz.func178, Tryz.ntmps178
    go_wp2_with fail
    exact bodyPost_ret (v := .agg #[.int .i64 0, .int .i64 0, .string ⟨#[]⟩]) (by simp [results, Tryz.results178, go_sem]) rfl ⟨rfl, (by repeat (with_reducible first | exact Grow.refl _ | assumption | refine Grow.drew ?_ | refine Grow.alloc ?_ _ | refine Grow.set ?_ (by first | exact Nat.le_refl _ | (simp; done) | (simp; omega) | omega) _ | exact And.left (by assumption) | refine Grow.trans ?_ (by assumption)))⟩
  · have hb : (t == 2) = false := by simpa using h
    have ha := Lib.hid (show asV t = ⟨1, t, ⟨#[]⟩⟩ by simp [asV, h, vInt])
    go_enter Tryz.func178, Tryz.ntmps178
    go_wp2_with fail
    generalize hW : World.alloc w _ = W
    obtain ⟨hg, s0, b0⟩ := boxedB hW
    obtain ⟨k0, f0⟩ := free_of b0
    clear hW
    refine (l1IntV_any _ _).mono ?_
    rintro e w1 ⟨rfl, hb1⟩
    have hc := hb1.same
    have hf := hb1.sameF
    have hgb := hg.trans hb1
    go_wp2
    exact bodyPost_ret (v := .agg #[.int .i64 1, .int .i64 t, .string ⟨#[]⟩]) (by simp [results, Tryz.results178, go_sem, hc, k0, s0]) rfl ⟨by rw [ha.out], (by repeat (with_reducible first | exact Grow.refl _ | assumption | refine Grow.drew ?_ | refine Grow.alloc ?_ _ | refine Grow.set ?_ (by first | exact Nat.le_refl _ | (simp; done) | (simp; omega) | omega) _ | exact And.left (by assumption) | refine Grow.trans ?_ (by assumption)))⟩
set_option maxHeartbeats 2000000 in
theorem l2Sum_any (a b : Val) (sign : Int) (w : World) (ha : okB a = true) (hb : okB b = true) (hs : sign = 1 ∨ sign = -1) :
    Calls Tryz.prog 191 #[.agg #[.int .i64 a.kind, .int .i64 a.n, .string a.s], .agg #[.int .i64 b.kind, .int .i64 b.n, .string b.s], .int .i64 sign] w (optV (sumV a b sign) w) := by
  have na := okB_n ha
  have nb := okB_n hb
  obtain ⟨k, n, s⟩ := a
  obtain ⟨l, m, t⟩ := b
  dsimp only at na nb ⊢
  obtain ⟨na0, na1⟩ := na
  obtain ⟨nb0, nb1⟩ := nb
  clear ha hb
  by_cases h1 : k = 2 ∨ l = 2
  · have ho := Lib.hid (show sumV ⟨k, n, s⟩ ⟨l, m, t⟩ sign = none by simp [sumV, h1])
    by_cases hk : k = 2
    · subst hk
      clear h1 hs
      go_enter Tryz.func191, Tryz.ntmps191
      go_wp2
      exact bodyPost_ret (v := .tuple #[.agg #[.int .i64 0, .int .i64 0, .string ⟨#[]⟩], .bool false]) (by simp [results, Tryz.results191, go_sem]) rfl (optV_none ho.out (by repeat (with_reducible first | exact Grow.refl _ | assumption | refine Grow.drew ?_ | refine Grow.alloc ?_ _ | refine Grow.set ?_ (by first | exact Nat.le_refl _ | (simp; done) | (simp; omega) | omega) _ | exact And.left (by assumption) | refine Grow.trans ?_ (by assumption))))
    · have hl : l = 2 := by omega
      subst hl
      have hk' : (k == 2) = false := by simpa using hk
      clear h1 hs hk
      go_enter Tryz.func191, Tryz.ntmps191
      go_wp2
      exact bodyPost_ret (v := .tuple #[.agg #[.int .i64 0, .int .i64 0, .string ⟨#[]⟩], .bool false]) (by simp [results, Tryz.results191, go_sem]) rfl (optV_none ho.out (by repeat (with_reducible first | exact Grow.refl _ | assumption | refine Grow.drew ?_ | refine Grow.alloc ?_ _ | refine Grow.set ?_ (by first | exact Nat.le_refl _ | (simp; done) | (simp; omega) | omega) _ | exact And.left (by assumption) | refine Grow.trans ?_ (by assumption))))
  have hk2 : (k == 2) = false := by simp; omega
  have hl2 : (l == 2) = false := by simp; omega
  by_cases h2 : k = 0 ∨ l = 0
  · have ho := Lib.hid (show sumV ⟨k, n, s⟩ ⟨l, m, t⟩ sign = some ⟨0, 0, ⟨#[]⟩⟩ by simp [sumV, h1, h2, vNull])
    by_cases hk : k = 0
    · subst hk
      clear h1 h2 hs
      go_enter Tryz.func191, Tryz.ntmps191
      go_wp2
      exact bodyPost_ret (v := .tuple #[.agg #[.int .i64 0, .int .i64 0, .string ⟨#[]⟩], .bool true]) (by simp [results, Tryz.results191, go_sem]) rfl (optV_some ho.out (by repeat (with_reducible first | exact Grow.refl _ | assumption | refine Grow.drew ?_ | refine Grow.alloc ?_ _ | refine Grow.set ?_ (by first | exact Nat.le_refl _ | (simp; done) | (simp; omega) | omega) _ | exact And.left (by assumption) | refine Grow.trans ?_ (by assumption))))
    · have hl : l = 0 := by omega
      subst hl
      have hk' : (k == 0) = false := by simpa using hk
      clear h1 h2 hs hk
      go_enter Tryz.func191, Tryz.ntmps191
      go_wp2
      exact bodyPost_ret (v := .tuple #[.agg #[.int .i64 0, .int .i64 0, .string ⟨#[]⟩], .bool true]) (by simp [results, Tryz.results191, go_sem]) rfl (optV_some ho.out (by repeat (with_reducible first | exact Grow.refl _ | assumption | refine Grow.drew ?_ | refine Grow.alloc ?_ _ | refine Grow.set ?_ (by first | exact Nat.le_refl _ | (simp; done) | (simp; omega) | omega) _ | exact And.left (by assumption) | refine Grow.trans ?_ (by assumption))))
  have hk0 : (k == 0) = false := by simp; omega
  have hl0 : (l == 0) = false := by simp; omega
  have ho := Lib.hid (show sumV ⟨k, n, s⟩ ⟨l, m, t⟩ sign = if okB (vInt (n + sign * m)) then some (vInt (n + sign * m)) else none by simp [sumV, h1, h2])
  clear h1 h2
  rcases hs with rfl | rfl
  all_goals
    go_enter Tryz.func191, Tryz.ntmps191
    go_wp2_with fail
    generalize hW : World.alloc _ _ = W
    obtain ⟨hg, s0, s1, s2, b0, b1, b2⟩ := boxed3 hW
    clear hW
    refine (l1IntV_any _ _).mono ?_
    rintro e w1 ⟨rfl, hb1⟩
    obtain ⟨k2, f2⟩ := free_of ((hb1.block s2).trans b2)
    have s2' := Nat.lt_of_lt_of_le s2 hb1.size
    have hgb := hg.trans hb1
    go_wp2_with fail
    generalize hV : World.alloc w1 _ = V
    obtain ⟨gV, sV, bV⟩ := boxedB hV
    obtain ⟨kV, fV⟩ := free_of bV
    obtain ⟨k3, f3⟩ := free_of ((gV.block s2').trans ((hb1.block s2).trans b2))
    have s3 := Nat.lt_of_lt_of_le s2' gV.size
    have hgV := hgb.trans gV
    clear hV
    refine wp_region_held_drew (S := fun w' => Grow w w' ∧ ∀ o, w'.cell? ⟨w1.heap.size, o, none⟩ = V.cell? ⟨w1.heap.size, o, none⟩) (by kernel_rfl) ⟨hgV.drew, fun _ => rfl⟩ (fun hHeld => ?_)
    ((refine tk 0 35 rfl rfl (v := ?_) ?_ ?_; rotate_left 1; (focus (intro w hSw; (try dsimp only at hSw); go_simp; (try with_reducible rfl); done)); all_goals (try simp only [Act.put, List.setIfInBounds_toArray, List.set_cons_zero, List.set_cons_succ])); (refine tk 1 36 rfl rfl (v := ?_) ?_ ?_; rotate_left 1; (focus (intro w hSw; (try dsimp only at hSw); go_simp; (try with_reducible rfl); done)); all_goals (try simp only [Act.put, List.setIfInBounds_toArray, List.set_cons_zero, List.set_cons_succ])))
    refine wpAnyH_ready (rs := [2]) (by kernel_rfl) (by simp) ?_
    refine AllReadyH.cons rfl (fun K hK => ?_) AllReadyH.nil
    go_simp
    go_at_call 116
    refine (sValOk_any _ _ _ _).mono ?_
    rintro e w4 ⟨rfl, hb⟩
    have hbw : Grow V w4 := (Grow.refl V).drew.trans hb
    have m2 : ∀ o, w4.cell? ⟨w.heap.size + 1 + 1, o, none⟩ = _ := fun o => (hbw.same _ _ s3).trans (k3 o)
    have n2 : ∀ o, w4.frozen? ⟨w.heap.size + 1 + 1, o, none⟩ = _ := fun o => (hbw.sameF _ _ s3).trans (f3 o)
    have g4 : Grow w w4 := hgV.trans hbw
    refine hK.out _ _ ⟨g4, fun o => hbw.same _ _ sV⟩ (fun hHeld => ?_)
    clear hK K
    (try simp only [Act.put, List.setIfInBounds_toArray, List.set_cons_zero, List.set_cons_succ])
    refine wpAnyH_ready (rs := [3]) (by kernel_rfl) (by simp) ?_
    refine AllReadyH.cons rfl (fun K hK => ?_) AllReadyH.nil
    go_simp
    refine hK.out _ _ ⟨by repeat (with_reducible first | exact Grow.refl _ | assumption | refine Grow.drew ?_ | refine Grow.alloc ?_ _ | refine Grow.set ?_ (by first | exact Nat.le_refl _ | (simp; done) | (simp; omega) | omega) _), fun o => by rw [World.cell?_setCell_far _ _ _ _ (by simp; omega), World.cell?_setCell_far _ _ _ _ (by simp; omega), World.cell?_setCell_far _ _ _ _ (by simp; omega)]; exact hbw.same _ _ sV⟩ (fun hHeld => ?_)
    clear hK K
    (try simp only [Act.put, List.setIfInBounds_toArray, List.set_cons_zero, List.set_cons_succ])
    ((refine tk 4 7 rfl rfl (v := ?_) ?_ ?_; rotate_left 1; (focus (intro w hSw; (try dsimp only at hSw); go_simp; (try with_reducible rfl); done)); all_goals (try simp only [Act.put, List.setIfInBounds_toArray, List.set_cons_zero, List.set_cons_succ])))
    refine wpAnyH_done (by kernel_rfl) ?_ _
    go_wp2
    exact bodyPost_ret (v := .tuple #[.agg #[.int .i64 1, .int .i64 _, .string ⟨#[]⟩], .bool (okB ⟨1, _, ⟨#[]⟩⟩)]) (by simp [results, Tryz.results191, go_sem, Act.put, m2]) rfl (optV_ite ho.out (by repeat (with_reducible first | exact Grow.refl _ | assumption | refine Grow.drew ?_ | refine Grow.alloc ?_ _ | refine Grow.set ?_ (by first | exact Nat.le_refl _ | (simp; done) | (simp; omega) | omega) _)))
theorem l2Sum_some (a b : Val) (sign : Int) (w : World) {u : Val} (hu : sumV a b sign = some u) (ha : okB a = true) (hb : okB b = true) (hs : sign = 1 ∨ sign = -1) :
    Calls Tryz.prog 191 #[.agg #[.int .i64 a.kind, .int .i64 a.n, .string a.s], .agg #[.int .i64 b.kind, .int .i64 b.n, .string b.s], .int .i64 sign] w (Ret w (.tuple #[.agg #[.int .i64 u.kind, .int .i64 u.n, .string u.s], .bool true])) :=
  (l2Sum_any a b sign w ha hb hs).mono fun e w' hv => by rw [hu] at hv; exact hv
theorem l2Sum_none (a b : Val) (sign : Int) (w : World) (hu : sumV a b sign = none) (ha : okB a = true) (hb : okB b = true) (hs : sign = 1 ∨ sign = -1) :
    Calls Tryz.prog 191 #[.agg #[.int .i64 a.kind, .int .i64 a.n, .string a.s], .agg #[.int .i64 b.kind, .int .i64 b.n, .string b.s], .int .i64 sign] w (fun e w' => ∃ k n s, Ret w (.tuple #[.agg #[.int .i64 k, .int .i64 n, .string s], .bool false]) e w') :=
  (l2Sum_any a b sign w ha hb hs).mono fun e w' hv => by rw [hu] at hv; obtain ⟨⟨k, n, s, he⟩, hg⟩ := hv; exact ⟨k, n, s, he, hg⟩
theorem truthV_in (v : Val) : truthV v = -1 ∨ truthV v = 0 ∨ truthV v = 1 ∨ truthV v = 2 := by unfold truthV; split <;> (try split) <;> (try split) <;> omega
set_option maxHeartbeats 4000000 in
theorem l2Two_any (kind : Int) (a b : Val) (w : World) (ha : okB a = true) (hb : okB b = true) (hk : kind = 3 ∨ kind = 4 ∨ kind = 5 ∨ kind = 6 ∨ kind = 9 ∨ kind = 10) :
    Calls Tryz.prog 180 #[.int .i64 kind, .agg #[.int .i64 a.kind, .int .i64 a.n, .string a.s], .agg #[.int .i64 b.kind, .int .i64 b.n, .string b.s]] w (optV (two kind a b) w) := by
  obtain ⟨k, n, s⟩ := a
  obtain ⟨l, m, t⟩ := b
  dsimp only
  rcases hk with rfl | rfl | rfl | rfl | rfl | rfl
  · have ho := Lib.hid (show two 3 ⟨k, n, s⟩ ⟨l, m, t⟩ = some (asV (eq3 ⟨k, n, s⟩ ⟨l, m, t⟩)) by simp only [two, if_true]; exact valT_as (eq3_pos _ _))
    go_enter Tryz.func180, Tryz.ntmps180
    go_wp2_with fail
    generalize hW : World.alloc _ _ = W
    obtain ⟨hg, s0, s1, s2, b0, b1, b2⟩ := boxed3 hW
    clear hW
    obtain ⟨k0, f0⟩ := free_of b0
    obtain ⟨k1, f1⟩ := free_of b1
    obtain ⟨k2, f2⟩ := free_of b2
    clear b0 b1 b2
    have hcur := Grow.refl W
    have hc := hcur.same
    have hcf := hcur.sameF
    go_wp2_with (first | (go_at_call 189; (with_reducible refine (sEqual3_any _ _ _ _ _ _ _).mono ?_); rintro e w1 ⟨rfl, hb⟩; replace hcur := hcur.trans hb; replace hc := hcur.same; replace hcf := hcur.sameF; clear hb) | (go_at_call 190; (with_reducible refine (sLess3_any _ _ _ _ _ _ _).mono ?_); rintro e w1 ⟨rfl, hb⟩; replace hcur := hcur.trans hb; replace hc := hcur.same; replace hcf := hcur.sameF; clear hb) | (go_at_call 178; (with_reducible refine (l2As_any _ _).mono ?_); rintro e w1 ⟨rfl, hb⟩; replace hcur := hcur.trans hb; replace hc := hcur.same; replace hcf := hcur.sameF; clear hb) | (go_at_call 165; (with_reducible refine (l2Of_any _ _ _ _).mono ?_); rintro e w1 ⟨rfl, hb⟩; replace hcur := hcur.trans hb; replace hc := hcur.same; replace hcf := hcur.sameF; clear hb) | (go_at_call 192; (with_reducible refine (sAnd3_any _ _ _).mono ?_); rintro e w1 ⟨rfl, rfl⟩) | (go_at_call 193; (with_reducible refine (sOr3_any _ _ _).mono ?_); rintro e w1 ⟨rfl, rfl⟩))
    have hgb := hg.trans hcur
    exact bodyPost_ret (v := .tuple #[.agg #[.int .i64 (asV (eq3 ⟨k, n, s⟩ ⟨l, m, t⟩)).kind, .int .i64 (asV (eq3 ⟨k, n, s⟩ ⟨l, m, t⟩)).n, .string (asV (eq3 ⟨k, n, s⟩ ⟨l, m, t⟩)).s], .bool true]) (by simp [results, Tryz.results180, go_sem, hc, k2, s2]) rfl (optV_some ho.out (by repeat (with_reducible first | exact Grow.refl _ | assumption | refine Grow.drew ?_ | refine Grow.alloc ?_ _ | refine Grow.set ?_ (by first | exact Nat.le_refl _ | (simp; done) | (simp; omega) | omega) _ | exact And.left (by assumption) | refine Grow.trans ?_ (by assumption))))
  · have ho := Lib.hid (show two 4 ⟨k, n, s⟩ ⟨l, m, t⟩ = some (asV (less3 ⟨k, n, s⟩ ⟨l, m, t⟩)) by simp only [two]; exact valT_as (less3_pos _ _))
    go_enter Tryz.func180, Tryz.ntmps180
    go_wp2_with fail
    generalize hW : World.alloc _ _ = W
    obtain ⟨hg, s0, s1, s2, b0, b1, b2⟩ := boxed3 hW
    clear hW
    obtain ⟨k0, f0⟩ := free_of b0
    obtain ⟨k1, f1⟩ := free_of b1
    obtain ⟨k2, f2⟩ := free_of b2
    clear b0 b1 b2
    have hcur := Grow.refl W
    have hc := hcur.same
    have hcf := hcur.sameF
    go_wp2_with (first | (go_at_call 189; (with_reducible refine (sEqual3_any _ _ _ _ _ _ _).mono ?_); rintro e w1 ⟨rfl, hb⟩; replace hcur := hcur.trans hb; replace hc := hcur.same; replace hcf := hcur.sameF; clear hb) | (go_at_call 190; (with_reducible refine (sLess3_any _ _ _ _ _ _ _).mono ?_); rintro e w1 ⟨rfl, hb⟩; replace hcur := hcur.trans hb; replace hc := hcur.same; replace hcf := hcur.sameF; clear hb) | (go_at_call 178; (with_reducible refine (l2As_any _ _).mono ?_); rintro e w1 ⟨rfl, hb⟩; replace hcur := hcur.trans hb; replace hc := hcur.same; replace hcf := hcur.sameF; clear hb) | (go_at_call 165; (with_reducible refine (l2Of_any _ _ _ _).mono ?_); rintro e w1 ⟨rfl, hb⟩; replace hcur := hcur.trans hb; replace hc := hcur.same; replace hcf := hcur.sameF; clear hb) | (go_at_call 192; (with_reducible refine (sAnd3_any _ _ _).mono ?_); rintro e w1 ⟨rfl, rfl⟩) | (go_at_call 193; (with_reducible refine (sOr3_any _ _ _).mono ?_); rintro e w1 ⟨rfl, rfl⟩))
    have hgb := hg.trans hcur
    exact bodyPost_ret (v := .tuple #[.agg #[.int .i64 (asV (less3 ⟨k, n, s⟩ ⟨l, m, t⟩)).kind, .int .i64 (asV (less3 ⟨k, n, s⟩ ⟨l, m, t⟩)).n, .string (asV (less3 ⟨k, n, s⟩ ⟨l, m, t⟩)).s], .bool true]) (by simp [results, Tryz.results180, go_sem, hc, k2, s2]) rfl (optV_some ho.out (by repeat (with_reducible first | exact Grow.refl _ | assumption | refine Grow.drew ?_ | refine Grow.alloc ?_ _ | refine Grow.set ?_ (by first | exact Nat.le_refl _ | (simp; done) | (simp; omega) | omega) _ | exact And.left (by assumption) | refine Grow.trans ?_ (by assumption))))
  · cases ha1 : ofOk ⟨k, n, s⟩ with
    | false =>
      have ho := Lib.hid (show two 5 ⟨k, n, s⟩ ⟨l, m, t⟩ = none by
        have h1 : truthV ⟨k, n, s⟩ = -1 := by rw [truthV_of, ha1]; rfl
        have h2 : truthV ⟨l, m, t⟩ = -1 ∨ truthV ⟨l, m, t⟩ = 0 ∨ truthV ⟨l, m, t⟩ = 1 ∨ truthV ⟨l, m, t⟩ = 2 := truthV_in _
        rw [show two 5 ⟨k, n, s⟩ ⟨l, m, t⟩ = valT (and3 (truthV ⟨k, n, s⟩) (truthV ⟨l, m, t⟩)) from rfl, h1]
        rcases h2 with h | h | h | h <;> rw [h] <;> decide)
      go_enter Tryz.func180, Tryz.ntmps180
      go_wp2_with fail
      generalize hW : World.alloc _ _ = W
      obtain ⟨hg, s0, s1, s2, b0, b1, b2⟩ := boxed3 hW
      clear hW
      obtain ⟨k0, f0⟩ := free_of b0
      obtain ⟨k1, f1⟩ := free_of b1
      obtain ⟨k2, f2⟩ := free_of b2
      clear b0 b1 b2
      have hcur := Grow.refl W
      have hc := hcur.same
      have hcf := hcur.sameF
      go_wp2_with (first | (go_at_call 189; (with_reducible refine (sEqual3_any _ _ _ _ _ _ _).mono ?_); rintro e w1 ⟨rfl, hb⟩; replace hcur := hcur.trans hb; replace hc := hcur.same; replace hcf := hcur.sameF; clear hb) | (go_at_call 190; (with_reducible refine (sLess3_any _ _ _ _ _ _ _).mono ?_); rintro e w1 ⟨rfl, hb⟩; replace hcur := hcur.trans hb; replace hc := hcur.same; replace hcf := hcur.sameF; clear hb) | (go_at_call 178; (with_reducible refine (l2As_any _ _).mono ?_); rintro e w1 ⟨rfl, hb⟩; replace hcur := hcur.trans hb; replace hc := hcur.same; replace hcf := hcur.sameF; clear hb) | (go_at_call 165; (with_reducible refine (l2Of_any _ _ _ _).mono ?_); rintro e w1 ⟨rfl, hb⟩; replace hcur := hcur.trans hb; replace hc := hcur.same; replace hcf := hcur.sameF; clear hb) | (go_at_call 192; (with_reducible refine (sAnd3_any _ _ _).mono ?_); rintro e w1 ⟨rfl, rfl⟩) | (go_at_call 193; (with_reducible refine (sOr3_any _ _ _).mono ?_); rintro e w1 ⟨rfl, rfl⟩))
      have hgb := hg.trans hcur
      exact bodyPost_ret (v := .tuple #[.agg #[.int .i64 0, .int .i64 0, .string ⟨#[]⟩], .bool false]) (by simp [results, Tryz.results180, go_sem, hc, k2, s2]) rfl (optV_none ho.out (by repeat (with_reducible first | exact Grow.refl _ | assumption | refine Grow.drew ?_ | refine Grow.alloc ?_ _ | refine Grow.set ?_ (by first | exact Nat.le_refl _ | (simp; done) | (simp; omega) | omega) _ | exact And.left (by assumption) | refine Grow.trans ?_ (by assumption))))
    | true =>
      cases hb1 : ofOk ⟨l, m, t⟩ with
      | false =>
        have ho := Lib.hid (show two 5 ⟨k, n, s⟩ ⟨l, m, t⟩ = none by
          have h1 : truthV ⟨l, m, t⟩ = -1 := by rw [truthV_of, hb1]; rfl
          have h2 : truthV ⟨k, n, s⟩ = -1 ∨ truthV ⟨k, n, s⟩ = 0 ∨ truthV ⟨k, n, s⟩ = 1 ∨ truthV ⟨k, n, s⟩ = 2 := truthV_in _
          rw [show two 5 ⟨k, n, s⟩ ⟨l, m, t⟩ = valT (and3 (truthV ⟨k, n, s⟩) (truthV ⟨l, m, t⟩)) from rfl, h1]
          rcases h2 with h | h | h | h <;> rw [h] <;> decide)
        go_enter Tryz.func180, Tryz.ntmps180
        go_wp2_with fail
        generalize hW : World.alloc _ _ = W
        obtain ⟨hg, s0, s1, s2, b0, b1, b2⟩ := boxed3 hW
        clear hW
        obtain ⟨k0, f0⟩ := free_of b0
        obtain ⟨k1, f1⟩ := free_of b1
        obtain ⟨k2, f2⟩ := free_of b2
        clear b0 b1 b2
        have hcur := Grow.refl W
        have hc := hcur.same
        have hcf := hcur.sameF
        go_wp2_with (first | (go_at_call 189; (with_reducible refine (sEqual3_any _ _ _ _ _ _ _).mono ?_); rintro e w1 ⟨rfl, hb⟩; replace hcur := hcur.trans hb; replace hc := hcur.same; replace hcf := hcur.sameF; clear hb) | (go_at_call 190; (with_reducible refine (sLess3_any _ _ _ _ _ _ _).mono ?_); rintro e w1 ⟨rfl, hb⟩; replace hcur := hcur.trans hb; replace hc := hcur.same; replace hcf := hcur.sameF; clear hb) | (go_at_call 178; (with_reducible refine (l2As_any _ _).mono ?_); rintro e w1 ⟨rfl, hb⟩; replace hcur := hcur.trans hb; replace hc := hcur.same; replace hcf := hcur.sameF; clear hb) | (go_at_call 165; (with_reducible refine (l2Of_any _ _ _ _).mono ?_); rintro e w1 ⟨rfl, hb⟩; replace hcur := hcur.trans hb; replace hc := hcur.same; replace hcf := hcur.sameF; clear hb) | (go_at_call 192; (with_reducible refine (sAnd3_any _ _ _).mono ?_); rintro e w1 ⟨rfl, rfl⟩) | (go_at_call 193; (with_reducible refine (sOr3_any _ _ _).mono ?_); rintro e w1 ⟨rfl, rfl⟩))
        have hgb := hg.trans hcur
        exact bodyPost_ret (v := .tuple #[.agg #[.int .i64 0, .int .i64 0, .string ⟨#[]⟩], .bool false]) (by simp [results, Tryz.results180, go_sem, hc, k2, s2]) rfl (optV_none ho.out (by repeat (with_reducible first | exact Grow.refl _ | assumption | refine Grow.drew ?_ | refine Grow.alloc ?_ _ | refine Grow.set ?_ (by first | exact Nat.le_refl _ | (simp; done) | (simp; omega) | omega) _ | exact And.left (by assumption) | refine Grow.trans ?_ (by assumption))))
      | true =>
        have ho := Lib.hid (show two 5 ⟨k, n, s⟩ ⟨l, m, t⟩ = some (asV (and3 (ofT ⟨k, n, s⟩) (ofT ⟨l, m, t⟩))) by
          have h1 : truthV ⟨k, n, s⟩ = ofT ⟨k, n, s⟩ := by rw [truthV_of, ha1]; rfl
          have h2 : truthV ⟨l, m, t⟩ = ofT ⟨l, m, t⟩ := by rw [truthV_of, hb1]; rfl
          rw [show two 5 ⟨k, n, s⟩ ⟨l, m, t⟩ = valT (and3 (truthV ⟨k, n, s⟩) (truthV ⟨l, m, t⟩)) from rfl, h1, h2]
          rcases ofT_in ⟨k, n, s⟩ with h | h | h <;> rcases ofT_in ⟨l, m, t⟩ with h' | h' | h' <;> rw [h, h'] <;> rfl)
        go_enter Tryz.func180, Tryz.ntmps180
        go_wp2_with fail
        generalize hW : World.alloc _ _ = W
        obtain ⟨hg, s0, s1, s2, b0, b1, b2⟩ := boxed3 hW
        clear hW
        obtain ⟨k0, f0⟩ := free_of b0
        obtain ⟨k1, f1⟩ := free_of b1
        obtain ⟨k2, f2⟩ := free_of b2
        clear b0 b1 b2
        have hcur := Grow.refl W
        have hc := hcur.same
        have hcf := hcur.sameF
        go_wp2_with (first | (go_at_call 189; (with_reducible refine (sEqual3_any _ _ _ _ _ _ _).mono ?_); rintro e w1 ⟨rfl, hb⟩; replace hcur := hcur.trans hb; replace hc := hcur.same; replace hcf := hcur.sameF; clear hb) | (go_at_call 190; (with_reducible refine (sLess3_any _ _ _ _ _ _ _).mono ?_); rintro e w1 ⟨rfl, hb⟩; replace hcur := hcur.trans hb; replace hc := hcur.same; replace hcf := hcur.sameF; clear hb) | (go_at_call 178; (with_reducible refine (l2As_any _ _).mono ?_); rintro e w1 ⟨rfl, hb⟩; replace hcur := hcur.trans hb; replace hc := hcur.same; replace hcf := hcur.sameF; clear hb) | (go_at_call 165; (with_reducible refine (l2Of_any _ _ _ _).mono ?_); rintro e w1 ⟨rfl, hb⟩; replace hcur := hcur.trans hb; replace hc := hcur.same; replace hcf := hcur.sameF; clear hb) | (go_at_call 192; (with_reducible refine (sAnd3_any _ _ _).mono ?_); rintro e w1 ⟨rfl, rfl⟩) | (go_at_call 193; (with_reducible refine (sOr3_any _ _ _).mono ?_); rintro e w1 ⟨rfl, rfl⟩))
        have hgb := hg.trans hcur
        exact bodyPost_ret (v := .tuple #[.agg #[.int .i64 (asV (and3 (ofT ⟨k, n, s⟩) (ofT ⟨l, m, t⟩))).kind, .int .i64 (asV (and3 (ofT ⟨k, n, s⟩) (ofT ⟨l, m, t⟩))).n, .string (asV (and3 (ofT ⟨k, n, s⟩) (ofT ⟨l, m, t⟩))).s], .bool true]) (by simp [results, Tryz.results180, go_sem, hc, k2, s2]) rfl (optV_some ho.out (by repeat (with_reducible first | exact Grow.refl _ | assumption | refine Grow.drew ?_ | refine Grow.alloc ?_ _ | refine Grow.set ?_ (by first | exact Nat.le_refl _ | (simp; done) | (simp; omega) | omega) _ | exact And.left (by assumption) | refine Grow.trans ?_ (by assumption))))
  · cases ha1 : ofOk ⟨k, n, s⟩ with
    | false =>
      have ho := Lib.hid (show two 6 ⟨k, n, s⟩ ⟨l, m, t⟩ = none by
        have h1 : truthV ⟨k, n, s⟩ = -1 := by rw [truthV_of, ha1]; rfl
        have h2 : truthV ⟨l, m, t⟩ = -1 ∨ truthV ⟨l, m, t⟩ = 0 ∨ truthV ⟨l, m, t⟩ = 1 ∨ truthV ⟨l, m, t⟩ = 2 := truthV_in _
        rw [show two 6 ⟨k, n, s⟩ ⟨l, m, t⟩ = valT (or3T (truthV ⟨k, n, s⟩) (truthV ⟨l, m, t⟩)) from rfl, h1]
        rcases h2 with h | h | h | h <;> rw [h] <;> decide)
      go_enter Tryz.func180, Tryz.ntmps180
      go_wp2_with fail
      generalize hW : World.alloc _ _ = W
      obtain ⟨hg, s0, s1, s2, b0, b1, b2⟩ := boxed3 hW
      clear hW
      obtain ⟨k0, f0⟩ := free_of b0
      obtain ⟨k1, f1⟩ := free_of b1
      obtain ⟨k2, f2⟩ := free_of b2
      clear b0 b1 b2
      have hcur := Grow.refl W
      have hc := hcur.same
      have hcf := hcur.sameF
      go_wp2_with (first | (go_at_call 189; (with_reducible refine (sEqual3_any _ _ _ _ _ _ _).mono ?_); rintro e w1 ⟨rfl, hb⟩; replace hcur := hcur.trans hb; replace hc := hcur.same; replace hcf := hcur.sameF; clear hb) | (go_at_call 190; (with_reducible refine (sLess3_any _ _ _ _ _ _ _).mono ?_); rintro e w1 ⟨rfl, hb⟩; replace hcur := hcur.trans hb; replace hc := hcur.same; replace hcf := hcur.sameF; clear hb) | (go_at_call 178; (with_reducible refine (l2As_any _ _).mono ?_); rintro e w1 ⟨rfl, hb⟩; replace hcur := hcur.trans hb; replace hc := hcur.same; replace hcf := hcur.sameF; clear hb) | (go_at_call 165; (with_reducible refine (l2Of_any _ _ _ _).mono ?_); rintro e w1 ⟨rfl, hb⟩; replace hcur := hcur.trans hb; replace hc := hcur.same; replace hcf := hcur.sameF; clear hb) | (go_at_call 192; (with_reducible refine (sAnd3_any _ _ _).mono ?_); rintro e w1 ⟨rfl, rfl⟩) | (go_at_call 193; (with_reducible refine (sOr3_any _ _ _).mono ?_); rintro e w1 ⟨rfl, rfl⟩))
      have hgb := hg.trans hcur
      exact bodyPost_ret (v := .tuple #[.agg #[.int .i64 0, .int .i64 0, .string ⟨#[]⟩], .bool false]) (by simp [results, Tryz.results180, go_sem, hc, k2, s2]) rfl (optV_none ho.out (by repeat (with_reducible first | exact Grow.refl _ | assumption | refine Grow.drew ?_ | refine Grow.alloc ?_ _ | refine Grow.set ?_ (by first | exact Nat.le_refl _ | (simp; done) | (simp; omega) | omega) _ | exact And.left (by assumption) | refine Grow.trans ?_ (by assumption))))
    | true =>
      cases hb1 : ofOk ⟨l, m, t⟩ with
      | false =>
        have ho := Lib.hid (show two 6 ⟨k, n, s⟩ ⟨l, m, t⟩ = none by
          have h1 : truthV ⟨l, m, t⟩ = -1 := by rw [truthV_of, hb1]; rfl
          have h2 : truthV ⟨k, n, s⟩ = -1 ∨ truthV ⟨k, n, s⟩ = 0 ∨ truthV ⟨k, n, s⟩ = 1 ∨ truthV ⟨k, n, s⟩ = 2 := truthV_in _
          rw [show two 6 ⟨k, n, s⟩ ⟨l, m, t⟩ = valT (or3T (truthV ⟨k, n, s⟩) (truthV ⟨l, m, t⟩)) from rfl, h1]
          rcases h2 with h | h | h | h <;> rw [h] <;> decide)
        go_enter Tryz.func180, Tryz.ntmps180
        go_wp2_with fail
        generalize hW : World.alloc _ _ = W
        obtain ⟨hg, s0, s1, s2, b0, b1, b2⟩ := boxed3 hW
        clear hW
        obtain ⟨k0, f0⟩ := free_of b0
        obtain ⟨k1, f1⟩ := free_of b1
        obtain ⟨k2, f2⟩ := free_of b2
        clear b0 b1 b2
        have hcur := Grow.refl W
        have hc := hcur.same
        have hcf := hcur.sameF
        go_wp2_with (first | (go_at_call 189; (with_reducible refine (sEqual3_any _ _ _ _ _ _ _).mono ?_); rintro e w1 ⟨rfl, hb⟩; replace hcur := hcur.trans hb; replace hc := hcur.same; replace hcf := hcur.sameF; clear hb) | (go_at_call 190; (with_reducible refine (sLess3_any _ _ _ _ _ _ _).mono ?_); rintro e w1 ⟨rfl, hb⟩; replace hcur := hcur.trans hb; replace hc := hcur.same; replace hcf := hcur.sameF; clear hb) | (go_at_call 178; (with_reducible refine (l2As_any _ _).mono ?_); rintro e w1 ⟨rfl, hb⟩; replace hcur := hcur.trans hb; replace hc := hcur.same; replace hcf := hcur.sameF; clear hb) | (go_at_call 165; (with_reducible refine (l2Of_any _ _ _ _).mono ?_); rintro e w1 ⟨rfl, hb⟩; replace hcur := hcur.trans hb; replace hc := hcur.same; replace hcf := hcur.sameF; clear hb) | (go_at_call 192; (with_reducible refine (sAnd3_any _ _ _).mono ?_); rintro e w1 ⟨rfl, rfl⟩) | (go_at_call 193; (with_reducible refine (sOr3_any _ _ _).mono ?_); rintro e w1 ⟨rfl, rfl⟩))
        have hgb := hg.trans hcur
        exact bodyPost_ret (v := .tuple #[.agg #[.int .i64 0, .int .i64 0, .string ⟨#[]⟩], .bool false]) (by simp [results, Tryz.results180, go_sem, hc, k2, s2]) rfl (optV_none ho.out (by repeat (with_reducible first | exact Grow.refl _ | assumption | refine Grow.drew ?_ | refine Grow.alloc ?_ _ | refine Grow.set ?_ (by first | exact Nat.le_refl _ | (simp; done) | (simp; omega) | omega) _ | exact And.left (by assumption) | refine Grow.trans ?_ (by assumption))))
      | true =>
        have ho := Lib.hid (show two 6 ⟨k, n, s⟩ ⟨l, m, t⟩ = some (asV (or3T (ofT ⟨k, n, s⟩) (ofT ⟨l, m, t⟩))) by
          have h1 : truthV ⟨k, n, s⟩ = ofT ⟨k, n, s⟩ := by rw [truthV_of, ha1]; rfl
          have h2 : truthV ⟨l, m, t⟩ = ofT ⟨l, m, t⟩ := by rw [truthV_of, hb1]; rfl
          rw [show two 6 ⟨k, n, s⟩ ⟨l, m, t⟩ = valT (or3T (truthV ⟨k, n, s⟩) (truthV ⟨l, m, t⟩)) from rfl, h1, h2]
          rcases ofT_in ⟨k, n, s⟩ with h | h | h <;> rcases ofT_in ⟨l, m, t⟩ with h' | h' | h' <;> rw [h, h'] <;> rfl)
        go_enter Tryz.func180, Tryz.ntmps180
        go_wp2_with fail
        generalize hW : World.alloc _ _ = W
        obtain ⟨hg, s0, s1, s2, b0, b1, b2⟩ := boxed3 hW
        clear hW
        obtain ⟨k0, f0⟩ := free_of b0
        obtain ⟨k1, f1⟩ := free_of b1
        obtain ⟨k2, f2⟩ := free_of b2
        clear b0 b1 b2
        have hcur := Grow.refl W
        have hc := hcur.same
        have hcf := hcur.sameF
        go_wp2_with (first | (go_at_call 189; (with_reducible refine (sEqual3_any _ _ _ _ _ _ _).mono ?_); rintro e w1 ⟨rfl, hb⟩; replace hcur := hcur.trans hb; replace hc := hcur.same; replace hcf := hcur.sameF; clear hb) | (go_at_call 190; (with_reducible refine (sLess3_any _ _ _ _ _ _ _).mono ?_); rintro e w1 ⟨rfl, hb⟩; replace hcur := hcur.trans hb; replace hc := hcur.same; replace hcf := hcur.sameF; clear hb) | (go_at_call 178; (with_reducible refine (l2As_any _ _).mono ?_); rintro e w1 ⟨rfl, hb⟩; replace hcur := hcur.trans hb; replace hc := hcur.same; replace hcf := hcur.sameF; clear hb) | (go_at_call 165; (with_reducible refine (l2Of_any _ _ _ _).mono ?_); rintro e w1 ⟨rfl, hb⟩; replace hcur := hcur.trans hb; replace hc := hcur.same; replace hcf := hcur.sameF; clear hb) | (go_at_call 192; (with_reducible refine (sAnd3_any _ _ _).mono ?_); rintro e w1 ⟨rfl, rfl⟩) | (go_at_call 193; (with_reducible refine (sOr3_any _ _ _).mono ?_); rintro e w1 ⟨rfl, rfl⟩))
        have hgb := hg.trans hcur
        exact bodyPost_ret (v := .tuple #[.agg #[.int .i64 (asV (or3T (ofT ⟨k, n, s⟩) (ofT ⟨l, m, t⟩))).kind, .int .i64 (asV (or3T (ofT ⟨k, n, s⟩) (ofT ⟨l, m, t⟩))).n, .string (asV (or3T (ofT ⟨k, n, s⟩) (ofT ⟨l, m, t⟩))).s], .bool true]) (by simp [results, Tryz.results180, go_sem, hc, k2, s2]) rfl (optV_some ho.out (by repeat (with_reducible first | exact Grow.refl _ | assumption | refine Grow.drew ?_ | refine Grow.alloc ?_ _ | refine Grow.set ?_ (by first | exact Nat.le_refl _ | (simp; done) | (simp; omega) | omega) _ | exact And.left (by assumption) | refine Grow.trans ?_ (by assumption))))
  · have ho := Lib.hid (show two 9 ⟨k, n, s⟩ ⟨l, m, t⟩ = sumV ⟨k, n, s⟩ ⟨l, m, t⟩ 1 by simp [two])
    cases hv : sumV ⟨k, n, s⟩ ⟨l, m, t⟩ 1 with
    | some u =>
      have HS := Lib.hid hv
      rw [hv] at ho
      clear hv
      go_enter Tryz.func180, Tryz.ntmps180
      go_wp2_with fail
      generalize hW : World.alloc _ _ = W
      obtain ⟨hg, s0, s1, s2, b0, b1, b2⟩ := boxed3 hW
      clear hW
      obtain ⟨k0, f0⟩ := free_of b0
      obtain ⟨k1, f1⟩ := free_of b1
      obtain ⟨k2, f2⟩ := free_of b2
      clear b0 b1 b2
      have hcur := Grow.refl W
      have hc := hcur.same
      have hcf := hcur.sameF
      go_wp2_with (first | (go_at_call 191; refine (l2Sum_some ⟨k, n, s⟩ ⟨l, m, t⟩ 1 _ HS.out ha hb (by decide)).mono ?_; rintro e w1 ⟨rfl, hb1⟩; replace hcur := hcur.trans hb1; replace hc := hcur.same; replace hcf := hcur.sameF; clear hb1))
      have hgb := hg.trans hcur
      exact bodyPost_ret (v := .tuple #[.agg #[.int .i64 u.kind, .int .i64 u.n, .string u.s], .bool true]) (by simp [results, Tryz.results180, go_sem, hc, k2, s2]) rfl (optV_some ho.out (by repeat (with_reducible first | exact Grow.refl _ | assumption | refine Grow.drew ?_ | refine Grow.alloc ?_ _ | refine Grow.set ?_ (by first | exact Nat.le_refl _ | (simp; done) | (simp; omega) | omega) _ | exact And.left (by assumption) | refine Grow.trans ?_ (by assumption))))
    | none =>
      have HS := Lib.hid hv
      rw [hv] at ho
      clear hv
      go_enter Tryz.func180, Tryz.ntmps180
      go_wp2_with fail
      generalize hW : World.alloc _ _ = W
      obtain ⟨hg, s0, s1, s2, b0, b1, b2⟩ := boxed3 hW
      clear hW
      obtain ⟨k0, f0⟩ := free_of b0
      obtain ⟨k1, f1⟩ := free_of b1
      obtain ⟨k2, f2⟩ := free_of b2
      clear b0 b1 b2
      have hcur := Grow.refl W
      have hc := hcur.same
      have hcf := hcur.sameF
      go_wp2_with (first | (go_at_call 191; refine (l2Sum_none ⟨k, n, s⟩ ⟨l, m, t⟩ 1 _ HS.out ha hb (by decide)).mono ?_; rintro e w1 ⟨q1, q2, q3, rfl, hb1⟩; replace hcur := hcur.trans hb1; replace hc := hcur.same; replace hcf := hcur.sameF; clear hb1))
      have hgb := hg.trans hcur
      exact bodyPost_ret (v := .tuple #[.agg #[.int .i64 q1, .int .i64 q2, .string q3], .bool false]) (by simp [results, Tryz.results180, go_sem, hc, k2, s2]) rfl (optV_none ho.out (by repeat (with_reducible first | exact Grow.refl _ | assumption | refine Grow.drew ?_ | refine Grow.alloc ?_ _ | refine Grow.set ?_ (by first | exact Nat.le_refl _ | (simp; done) | (simp; omega) | omega) _ | exact And.left (by assumption) | refine Grow.trans ?_ (by assumption))))
  · have ho := Lib.hid (show two 10 ⟨k, n, s⟩ ⟨l, m, t⟩ = sumV ⟨k, n, s⟩ ⟨l, m, t⟩ (-1) by simp [two])
    cases hv : sumV ⟨k, n, s⟩ ⟨l, m, t⟩ (-1) with
    | some u =>
      have HS := Lib.hid hv
      rw [hv] at ho
      clear hv
      go_enter Tryz.func180, Tryz.ntmps180
      go_wp2_with fail
      generalize hW : World.alloc _ _ = W
      obtain ⟨hg, s0, s1, s2, b0, b1, b2⟩ := boxed3 hW
      clear hW
      obtain ⟨k0, f0⟩ := free_of b0
      obtain ⟨k1, f1⟩ := free_of b1
      obtain ⟨k2, f2⟩ := free_of b2
      clear b0 b1 b2
      have hcur := Grow.refl W
      have hc := hcur.same
      have hcf := hcur.sameF
      go_wp2_with (first | (go_at_call 191; refine (l2Sum_some ⟨k, n, s⟩ ⟨l, m, t⟩ (-1) _ HS.out ha hb (by decide)).mono ?_; rintro e w1 ⟨rfl, hb1⟩; replace hcur := hcur.trans hb1; replace hc := hcur.same; replace hcf := hcur.sameF; clear hb1))
      have hgb := hg.trans hcur
      exact bodyPost_ret (v := .tuple #[.agg #[.int .i64 u.kind, .int .i64 u.n, .string u.s], .bool true]) (by simp [results, Tryz.results180, go_sem, hc, k2, s2]) rfl (optV_some ho.out (by repeat (with_reducible first | exact Grow.refl _ | assumption | refine Grow.drew ?_ | refine Grow.alloc ?_ _ | refine Grow.set ?_ (by first | exact Nat.le_refl _ | (simp; done) | (simp; omega) | omega) _ | exact And.left (by assumption) | refine Grow.trans ?_ (by assumption))))
    | none =>
      have HS := Lib.hid hv
      rw [hv] at ho
      clear hv
      go_enter Tryz.func180, Tryz.ntmps180
      go_wp2_with fail
      generalize hW : World.alloc _ _ = W
      obtain ⟨hg, s0, s1, s2, b0, b1, b2⟩ := boxed3 hW
      clear hW
      obtain ⟨k0, f0⟩ := free_of b0
      obtain ⟨k1, f1⟩ := free_of b1
      obtain ⟨k2, f2⟩ := free_of b2
      clear b0 b1 b2
      have hcur := Grow.refl W
      have hc := hcur.same
      have hcf := hcur.sameF
      go_wp2_with (first | (go_at_call 191; refine (l2Sum_none ⟨k, n, s⟩ ⟨l, m, t⟩ (-1) _ HS.out ha hb (by decide)).mono ?_; rintro e w1 ⟨q1, q2, q3, rfl, hb1⟩; replace hcur := hcur.trans hb1; replace hc := hcur.same; replace hcf := hcur.sameF; clear hb1))
      have hgb := hg.trans hcur
      exact bodyPost_ret (v := .tuple #[.agg #[.int .i64 q1, .int .i64 q2, .string q3], .bool false]) (by simp [results, Tryz.results180, go_sem, hc, k2, s2]) rfl (optV_none ho.out (by repeat (with_reducible first | exact Grow.refl _ | assumption | refine Grow.drew ?_ | refine Grow.alloc ?_ _ | refine Grow.set ?_ (by first | exact Nat.le_refl _ | (simp; done) | (simp; omega) | omega) _ | exact And.left (by assumption) | refine Grow.trans ?_ (by assumption))))
end Go.Proofs.YtjeilgogjoidjaaGreat
