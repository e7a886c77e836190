import Derived.Test.YtjeilgogjoidjaaGreatEval
/-! What a token makes of what it takes. -/
namespace Go.Proofs.YtjeilgogjoidjaaGreat
open Go.RowKit
set_option linter.unusedVariables false
set_option linter.unusedSimpArgs false
def applyV (t : Tok) (l row : List Val) : Option Val :=
  if t.kind = 1 then row[t.col.toNat]?
  else if t.kind = 2 then some t.v
  else if t.kind = 7 then (l[0]?).bind fun a => valT (not3 (truthV a))
  else if t.kind = 8 then (l[0]?).bind fun a => some (vInt (if a.kind = 0 then 1 else 0))
  else (l[0]?).bind fun a => (l[1]?).bind fun b => two t.kind a b
theorem eq3_in (a b : Val) : eq3 a b = -1 ∨ eq3 a b = 0 ∨ eq3 a b = 1 ∨ eq3 a b = 2 := by unfold eq3; split <;> (try split) <;> omega
theorem less3_in (a b : Val) : less3 a b = -1 ∨ less3 a b = 0 ∨ less3 a b = 1 ∨ less3 a b = 2 := by unfold less3; split <;> (try split) <;> omega
theorem and3_in (a b : Int) : and3 a b = -1 ∨ and3 a b = 0 ∨ and3 a b = 1 ∨ and3 a b = 2 := by unfold and3; split <;> (try split) <;> (try split) <;> omega
theorem or3T_in (a b : Int) : or3T a b = -1 ∨ or3T a b = 0 ∨ or3T a b = 1 ∨ or3T a b = 2 := by unfold or3T; split <;> (try split) <;> (try split) <;> omega
theorem not3_in (a : Int) : not3 a = -1 ∨ not3 a = 0 ∨ not3 a = 1 ∨ not3 a = 2 := by
  unfold not3; split
  · rename_i h; have := truB_spec h; split <;> omega
  · omega
theorem valOf_some (t : Int) (w : World) {u : Val} (hu : valT t = some u) (ht : t = -1 ∨ t = 0 ∨ t = 1 ∨ t = 2) : Calls Tryz.prog 182 #[.int .i64 t] w (Ret w (.tuple #[.agg #[.int .i64 u.kind, .int .i64 u.n, .string u.s], .bool true])) :=
  (valOf_any t w ht).mono fun e w' hv => by rw [hu] at hv; exact hv
theorem valOf_none (t : Int) (w : World) (hu : valT t = none) (ht : t = -1 ∨ t = 0 ∨ t = 1 ∨ t = 2) : Calls Tryz.prog 182 #[.int .i64 t] w (fun e w' => ∃ k n s, Ret w (.tuple #[.agg #[.int .i64 k, .int .i64 n, .string s], .bool false]) e w') :=
  (valOf_any t w ht).mono fun e w' hv => by rw [hu] at hv; obtain ⟨⟨k, n, s, he⟩, hg⟩ := hv; exact ⟨k, n, s, he, hg⟩
theorem sumOf_some (a b : Val) (sign : Int) (w : World) {u : Val} (hu : sumV a b sign = some u) (ha : okB a = true) (hb : okB b = true) (hs : sign = 1 ∨ sign = -1) :
    Calls Tryz.prog 188 #[.agg #[.int .i64 a.kind, .int .i64 a.n, .string a.s], .agg #[.int .i64 b.kind, .int .i64 b.n, .string b.s], .int .i64 sign] w (Ret w (.tuple #[.agg #[.int .i64 u.kind, .int .i64 u.n, .string u.s], .bool true])) :=
  (sumOf_any a b sign w ha hb hs).mono fun e w' hv => by rw [hu] at hv; exact hv
theorem sumOf_none (a b : Val) (sign : Int) (w : World) (hu : sumV a b sign = none) (ha : okB a = true) (hb : okB b = true) (hs : sign = 1 ∨ sign = -1) :
    Calls Tryz.prog 188 #[.agg #[.int .i64 a.kind, .int .i64 a.n, .string a.s], .agg #[.int .i64 b.kind, .int .i64 b.n, .string b.s], .int .i64 sign] w (fun e w' => ∃ k n s, Ret w (.tuple #[.agg #[.int .i64 k, .int .i64 n, .string s], .bool false]) e w') :=
  (sumOf_any a b sign w ha hb hs).mono fun e w' hv => by rw [hu] at hv; obtain ⟨⟨k, n, s, he⟩, hg⟩ := hv; exact ⟨k, n, s, he, hg⟩
set_option maxHeartbeats 4000000 in
theorem apply_any (cs : List Value) (x : Tok) {S : Nat → Prop} {W0 : World} (h : Kd.tok.rd W0 S cs x) {A B : Option Addr} {la ca lb cb : Nat} {l row : List Val} (w : World)
    (hl : IsSl Kd.val w (· < w.heap.size) A la ca l) (hr : IsSl Kd.val w (· < w.heap.size) B lb cb row) (ht : isTokB x lb = true) (hla : (la : Int) = takesB x) (hok : ∀ v ∈ l, okB v = true) :
    Calls Tryz.prog 173 #[.agg cs.toArray, .slice A la ca, .slice B lb cb] w (optV (applyV x l row) w) := by
  obtain ⟨rfl, zs⟩ := h
  have hk : x.kind = 1 ∨ x.kind = 2 ∨ x.kind = 3 ∨ x.kind = 4 ∨ x.kind = 5 ∨ x.kind = 6 ∨ x.kind = 7 ∨ x.kind = 8 ∨ x.kind = 9 ∨ x.kind = 10 := by
    unfold isTokB at ht
    split at ht
    · omega
    · split at ht
      · omega
      · simp [inB] at ht; omega
  obtain ⟨kind, col, v⟩ := x
  dsimp only at hk zs ⊢
  rcases hk with rfl | rfl | rfl | rfl | rfl | rfl | rfl | rfl | rfl | rfl
  · have hcol : 0 ≤ col ∧ col < lb := by simp [isTokB, inB] at ht; omega
    obtain ⟨c, rfl⟩ := Int.eq_ofNat_of_zero_le hcol.1
    have hc : c < lb := by omega
    obtain ⟨b, off, y, rfl, hy, _, hb, hs, c0, c1, c2⟩ := val_at hr hc
    have ha := Lib.hid (show applyV ⟨1, (c : Int), v⟩ l row = some ⟨y.kind, y.n, y.s⟩ by simp [applyV, hy.out])
    clear ht hla hok hcol
    go_enter Tryz.func173, Tryz.ntmps173
    go_wp2
    exact bodyPost_ret (v := .tuple #[.agg #[.int .i64 y.kind, .int .i64 y.n, .string y.s], .bool true]) (by simp [results, Tryz.results173, go_sem]) rfl (optV_some ha.out (by repeat (with_reducible first | exact Grow.refl _ | assumption | refine Grow.drew ?_ | refine Grow.alloc ?_ _ | refine Grow.set ?_ (by first | exact Nat.le_refl _ | (simp; done) | (simp; omega) | omega) _ | exact And.left (by assumption) | refine Grow.trans ?_ (by assumption))))
  · have ha := Lib.hid (show applyV ⟨2, col, v⟩ l row = some ⟨v.kind, v.n, v.s⟩ by simp [applyV])
    clear ht hla hok
    go_enter Tryz.func173, Tryz.ntmps173
    go_wp2
    exact bodyPost_ret (v := .tuple #[.agg #[.int .i64 v.kind, .int .i64 v.n, .string v.s], .bool true]) (by simp [results, Tryz.results173, go_sem]) rfl (optV_some ha.out (by repeat (with_reducible first | exact Grow.refl _ | assumption | refine Grow.drew ?_ | refine Grow.alloc ?_ _ | refine Grow.set ?_ (by first | exact Nat.le_refl _ | (simp; done) | (simp; omega) | omega) _ | exact And.left (by assumption) | refine Grow.trans ?_ (by assumption))))
  · have h2 : la = 2 := by simp [takesB] at hla; omega
    subst h2
    obtain ⟨b, off, y, rfl, hy, _, hb, hs, c0, c1, c2⟩ := val_at hl (i := 0) (by omega)
    obtain ⟨b', off', z, he, hz, _, hb', hs', d0, d1, d2⟩ := val_at hl (i := 1) (by omega)
    simp only [Option.some.injEq, Addr.mk.injEq, and_true] at he
    obtain ⟨rfl, rfl⟩ := he
    simp only [Nat.zero_mul, Nat.one_mul, Nat.add_zero, Nat.zero_add] at c0 c1 c2 d0 d1 d2
    have ha := Lib.hid (show applyV ⟨3, col, v⟩ l row = valT (eq3 y z) by simp [applyV, hy.out, hz.out, two])
    clear ht hla hok
    go_enter Tryz.func173, Tryz.ntmps173
    go_wp2_with fail
    generalize hW : World.alloc (World.alloc w _) _ = W
    obtain ⟨hg, s0, s1, b0, b1⟩ := boxedB2 hW
    clear hW
    obtain ⟨k1, f1⟩ := free_of b1
    clear b0 b1
    have hbw := (Grow.refl W).drew
    have hbW : b < W.heap.size := Nat.lt_of_lt_of_le hb hg.size
    cases hvt : valT (eq3 y z) with
    | none =>
      rw [hvt] at ha
      have HV := Lib.hid hvt
      clear hvt
      go_region_held3 (fun w' => Grow w w' ∧ Same w w') (exact Grow.both (by repeat (with_reducible first | exact Grow.refl _ | assumption | refine Grow.drew ?_ | refine Grow.alloc ?_ _ | refine Grow.set ?_ (by first | exact Nat.le_refl _ | (simp; done) | (simp; omega) | omega) _ | exact And.left (by assumption) | refine Grow.trans ?_ (by assumption)))) (first | (go_at_call 183; refine (iEqual3_any _ _ _ _ _ _ _).mono ?_; rintro e w4 ⟨rfl, hb4⟩; replace hbw := hbw.trans hb4; clear hb4; have hc4 := hbw.same) | (go_at_call 182; refine (valOf_none _ _ HV.out (eq3_in _ _)).mono ?_; rintro e w5 ⟨k, n, s, rfl, hb5⟩; replace hbw := hbw.trans hb5; clear hb5; have m1 : ∀ o, w5.cell? ⟨w.heap.size + 1, o, none⟩ = _ := fun o => (hbw.same _ _ s1).trans (k1 o); have n1 : ∀ o, w5.frozen? ⟨w.heap.size + 1, o, none⟩ = _ := fun o => (hbw.sameF _ _ s1).trans (f1 o)))
      all_goals go_wp2
      all_goals exact bodyPost_ret (v := .tuple #[.agg #[.int .i64 k, .int .i64 n, .string s], .bool false]) (by simp [results, Tryz.results173, go_sem, Act.put, m1]) rfl (optV_none ha.out (by repeat (with_reducible first | exact Grow.refl _ | assumption | refine Grow.drew ?_ | refine Grow.alloc ?_ _ | refine Grow.set ?_ (by first | exact Nat.le_refl _ | (simp; done) | (simp; omega) | omega) _ | exact And.left (by assumption) | refine Grow.trans ?_ (by assumption))))
    | some u =>
      rw [hvt] at ha
      have HV := Lib.hid hvt
      clear hvt
      go_region_held3 (fun w' => Grow w w' ∧ Same w w') (exact Grow.both (by repeat (with_reducible first | exact Grow.refl _ | assumption | refine Grow.drew ?_ | refine Grow.alloc ?_ _ | refine Grow.set ?_ (by first | exact Nat.le_refl _ | (simp; done) | (simp; omega) | omega) _ | exact And.left (by assumption) | refine Grow.trans ?_ (by assumption)))) (first | (go_at_call 183; refine (iEqual3_any _ _ _ _ _ _ _).mono ?_; rintro e w4 ⟨rfl, hb4⟩; replace hbw := hbw.trans hb4; clear hb4; have hc4 := hbw.same) | (go_at_call 182; refine (valOf_some _ _ HV.out (eq3_in _ _)).mono ?_; rintro e w5 ⟨rfl, hb5⟩; replace hbw := hbw.trans hb5; clear hb5; have m1 : ∀ o, w5.cell? ⟨w.heap.size + 1, o, none⟩ = _ := fun o => (hbw.same _ _ s1).trans (k1 o); have n1 : ∀ o, w5.frozen? ⟨w.heap.size + 1, o, none⟩ = _ := fun o => (hbw.sameF _ _ s1).trans (f1 o)))
      all_goals go_wp2
      all_goals exact bodyPost_ret (v := .tuple #[.agg #[.int .i64 u.kind, .int .i64 u.n, .string u.s], .bool true]) (by simp [results, Tryz.results173, go_sem, Act.put, m1]) rfl (optV_some ha.out (by repeat (with_reducible first | exact Grow.refl _ | assumption | refine Grow.drew ?_ | refine Grow.alloc ?_ _ | refine Grow.set ?_ (by first | exact Nat.le_refl _ | (simp; done) | (simp; omega) | omega) _ | exact And.left (by assumption) | refine Grow.trans ?_ (by assumption))))
  · have h2 : la = 2 := by simp [takesB] at hla; omega
    subst h2
    obtain ⟨b, off, y, rfl, hy, _, hb, hs, c0, c1, c2⟩ := val_at hl (i := 0) (by omega)
    obtain ⟨b', off', z, he, hz, _, hb', hs', d0, d1, d2⟩ := val_at hl (i := 1) (by omega)
    simp only [Option.some.injEq, Addr.mk.injEq, and_true] at he
    obtain ⟨rfl, rfl⟩ := he
    simp only [Nat.zero_mul, Nat.one_mul, Nat.add_zero, Nat.zero_add] at c0 c1 c2 d0 d1 d2
    have ha := Lib.hid (show applyV ⟨4, col, v⟩ l row = valT (less3 y z) by simp [applyV, hy.out, hz.out, two])
    clear ht hla hok
    go_enter Tryz.func173, Tryz.ntmps173
    go_wp2_with fail
    generalize hW : World.alloc (World.alloc w _) _ = W
    obtain ⟨hg, s0, s1, b0, b1⟩ := boxedB2 hW
    clear hW
    obtain ⟨k1, f1⟩ := free_of b1
    clear b0 b1
    have hbw := (Grow.refl W).drew
    have hbW : b < W.heap.size := Nat.lt_of_lt_of_le hb hg.size
    cases hvt : valT (less3 y z) with
    | none =>
      rw [hvt] at ha
      have HV := Lib.hid hvt
      clear hvt
      go_region_held3 (fun w' => Grow w w' ∧ Same w w') (exact Grow.both (by repeat (with_reducible first | exact Grow.refl _ | assumption | refine Grow.drew ?_ | refine Grow.alloc ?_ _ | refine Grow.set ?_ (by first | exact Nat.le_refl _ | (simp; done) | (simp; omega) | omega) _ | exact And.left (by assumption) | refine Grow.trans ?_ (by assumption)))) (first | (go_at_call 184; refine (iLess3_any _ _ _ _ _ _ _).mono ?_; rintro e w4 ⟨rfl, hb4⟩; replace hbw := hbw.trans hb4; clear hb4; have hc4 := hbw.same) | (go_at_call 182; refine (valOf_none _ _ HV.out (less3_in _ _)).mono ?_; rintro e w5 ⟨k, n, s, rfl, hb5⟩; replace hbw := hbw.trans hb5; clear hb5; have m1 : ∀ o, w5.cell? ⟨w.heap.size + 1, o, none⟩ = _ := fun o => (hbw.same _ _ s1).trans (k1 o); have n1 : ∀ o, w5.frozen? ⟨w.heap.size + 1, o, none⟩ = _ := fun o => (hbw.sameF _ _ s1).trans (f1 o)))
      all_goals go_wp2
      all_goals exact bodyPost_ret (v := .tuple #[.agg #[.int .i64 k, .int .i64 n, .string s], .bool false]) (by simp [results, Tryz.results173, go_sem, Act.put, m1]) rfl (optV_none ha.out (by repeat (with_reducible first | exact Grow.refl _ | assumption | refine Grow.drew ?_ | refine Grow.alloc ?_ _ | refine Grow.set ?_ (by first | exact Nat.le_refl _ | (simp; done) | (simp; omega) | omega) _ | exact And.left (by assumption) | refine Grow.trans ?_ (by assumption))))
    | some u =>
      rw [hvt] at ha
      have HV := Lib.hid hvt
      clear hvt
      go_region_held3 (fun w' => Grow w w' ∧ Same w w') (exact Grow.both (by repeat (with_reducible first | exact Grow.refl _ | assumption | refine Grow.drew ?_ | refine Grow.alloc ?_ _ | refine Grow.set ?_ (by first | exact Nat.le_refl _ | (simp; done) | (simp; omega) | omega) _ | exact And.left (by assumption) | refine Grow.trans ?_ (by assumption)))) (first | (go_at_call 184; refine (iLess3_any _ _ _ _ _ _ _).mono ?_; rintro e w4 ⟨rfl, hb4⟩; replace hbw := hbw.trans hb4; clear hb4; have hc4 := hbw.same) | (go_at_call 182; refine (valOf_some _ _ HV.out (less3_in _ _)).mono ?_; rintro e w5 ⟨rfl, hb5⟩; replace hbw := hbw.trans hb5; clear hb5; have m1 : ∀ o, w5.cell? ⟨w.heap.size + 1, o, none⟩ = _ := fun o => (hbw.same _ _ s1).trans (k1 o); have n1 : ∀ o, w5.frozen? ⟨w.heap.size + 1, o, none⟩ = _ := fun o => (hbw.sameF _ _ s1).trans (f1 o)))
      all_goals go_wp2
      all_goals exact bodyPost_ret (v := .tuple #[.agg #[.int .i64 u.kind, .int .i64 u.n, .string u.s], .bool true]) (by simp [results, Tryz.results173, go_sem, Act.put, m1]) rfl (optV_some ha.out (by repeat (with_reducible first | exact Grow.refl _ | assumption | refine Grow.drew ?_ | refine Grow.alloc ?_ _ | refine Grow.set ?_ (by first | exact Nat.le_refl _ | (simp; done) | (simp; omega) | omega) _ | exact And.left (by assumption) | refine Grow.trans ?_ (by assumption))))
  · have h2 : la = 2 := by simp [takesB] at hla; omega
    subst h2
    obtain ⟨b, off, y, rfl, hy, _, hb, hs, c0, c1, c2⟩ := val_at hl (i := 0) (by omega)
    obtain ⟨b', off', z, he, hz, _, hb', hs', d0, d1, d2⟩ := val_at hl (i := 1) (by omega)
    simp only [Option.some.injEq, Addr.mk.injEq, and_true] at he
    obtain ⟨rfl, rfl⟩ := he
    simp only [Nat.zero_mul, Nat.one_mul, Nat.add_zero, Nat.zero_add] at c0 c1 c2 d0 d1 d2
    have ha := Lib.hid (show applyV ⟨5, col, v⟩ l row = valT (and3 (truthV y) (truthV z)) by simp [applyV, hy.out, hz.out, two])
    clear ht hla hok
    go_enter Tryz.func173, Tryz.ntmps173
    go_wp2_with fail
    generalize hW : World.alloc (World.alloc w _) _ = W
    obtain ⟨hg, s0, s1, b0, b1⟩ := boxedB2 hW
    clear hW
    obtain ⟨k1, f1⟩ := free_of b1
    clear b0 b1
    have hbw := (Grow.refl W).drew
    have hbW : b < W.heap.size := Nat.lt_of_lt_of_le hb hg.size
    cases hvt : valT (and3 (truthV y) (truthV z)) with
    | none =>
      rw [hvt] at ha
      have HV := Lib.hid hvt
      clear hvt
      go_region_held3 (fun w' => Grow w w' ∧ Same w w') (exact Grow.both (by repeat (with_reducible first | exact Grow.refl _ | assumption | refine Grow.drew ?_ | refine Grow.alloc ?_ _ | refine Grow.set ?_ (by first | exact Nat.le_refl _ | (simp; done) | (simp; omega) | omega) _ | exact And.left (by assumption) | refine Grow.trans ?_ (by assumption)))) (first | (go_at_call 158; refine (truth_any _ _ _ _).mono ?_; rintro e w4 ⟨rfl, hb4⟩; replace hbw := hbw.trans hb4; clear hb4; have hc4 := hbw.same) | (go_at_call 185; refine (iAnd3_any _ _ _).mono ?_; rintro e w4 ⟨rfl, hb4⟩; replace hbw := hbw.trans hb4; clear hb4; have hc4 := hbw.same) | (go_at_call 182; refine (valOf_none _ _ HV.out (and3_in _ _)).mono ?_; rintro e w5 ⟨k, n, s, rfl, hb5⟩; replace hbw := hbw.trans hb5; clear hb5; have m1 : ∀ o, w5.cell? ⟨w.heap.size + 1, o, none⟩ = _ := fun o => (hbw.same _ _ s1).trans (k1 o); have n1 : ∀ o, w5.frozen? ⟨w.heap.size + 1, o, none⟩ = _ := fun o => (hbw.sameF _ _ s1).trans (f1 o)))
      all_goals go_wp2
      all_goals exact bodyPost_ret (v := .tuple #[.agg #[.int .i64 k, .int .i64 n, .string s], .bool false]) (by simp [results, Tryz.results173, go_sem, Act.put, m1]) rfl (optV_none ha.out (by repeat (with_reducible first | exact Grow.refl _ | assumption | refine Grow.drew ?_ | refine Grow.alloc ?_ _ | refine Grow.set ?_ (by first | exact Nat.le_refl _ | (simp; done) | (simp; omega) | omega) _ | exact And.left (by assumption) | refine Grow.trans ?_ (by assumption))))
    | some u =>
      rw [hvt] at ha
      have HV := Lib.hid hvt
      clear hvt
      go_region_held3 (fun w' => Grow w w' ∧ Same w w') (exact Grow.both (by repeat (with_reducible first | exact Grow.refl _ | assumption | refine Grow.drew ?_ | refine Grow.alloc ?_ _ | refine Grow.set ?_ (by first | exact Nat.le_refl _ | (simp; done) | (simp; omega) | omega) _ | exact And.left (by assumption) | refine Grow.trans ?_ (by assumption)))) (first | (go_at_call 158; refine (truth_any _ _ _ _).mono ?_; rintro e w4 ⟨rfl, hb4⟩; replace hbw := hbw.trans hb4; clear hb4; have hc4 := hbw.same) | (go_at_call 185; refine (iAnd3_any _ _ _).mono ?_; rintro e w4 ⟨rfl, hb4⟩; replace hbw := hbw.trans hb4; clear hb4; have hc4 := hbw.same) | (go_at_call 182; refine (valOf_some _ _ HV.out (and3_in _ _)).mono ?_; rintro e w5 ⟨rfl, hb5⟩; replace hbw := hbw.trans hb5; clear hb5; have m1 : ∀ o, w5.cell? ⟨w.heap.size + 1, o, none⟩ = _ := fun o => (hbw.same _ _ s1).trans (k1 o); have n1 : ∀ o, w5.frozen? ⟨w.heap.size + 1, o, none⟩ = _ := fun o => (hbw.sameF _ _ s1).trans (f1 o)))
      all_goals go_wp2
      all_goals exact bodyPost_ret (v := .tuple #[.agg #[.int .i64 u.kind, .int .i64 u.n, .string u.s], .bool true]) (by simp [results, Tryz.results173, go_sem, Act.put, m1]) rfl (optV_some ha.out (by repeat (with_reducible first | exact Grow.refl _ | assumption | refine Grow.drew ?_ | refine Grow.alloc ?_ _ | refine Grow.set ?_ (by first | exact Nat.le_refl _ | (simp; done) | (simp; omega) | omega) _ | exact And.left (by assumption) | refine Grow.trans ?_ (by assumption))))
  · have h2 : la = 2 := by simp [takesB] at hla; omega
    subst h2
    obtain ⟨b, off, y, rfl, hy, _, hb, hs, c0, c1, c2⟩ := val_at hl (i := 0) (by omega)
    obtain ⟨b', off', z, he, hz, _, hb', hs', d0, d1, d2⟩ := val_at hl (i := 1) (by omega)
    simp only [Option.some.injEq, Addr.mk.injEq, and_true] at he
    obtain ⟨rfl, rfl⟩ := he
    simp only [Nat.zero_mul, Nat.one_mul, Nat.add_zero, Nat.zero_add] at c0 c1 c2 d0 d1 d2
    have ha := Lib.hid (show applyV ⟨6, col, v⟩ l row = valT (or3T (truthV y) (truthV z)) by simp [applyV, hy.out, hz.out, two])
    clear ht hla hok
    go_enter Tryz.func173, Tryz.ntmps173
    go_wp2_with fail
    generalize hW : World.alloc (World.alloc w _) _ = W
    obtain ⟨hg, s0, s1, b0, b1⟩ := boxedB2 hW
    clear hW
    obtain ⟨k1, f1⟩ := free_of b1
    clear b0 b1
    have hbw := (Grow.refl W).drew
    have hbW : b < W.heap.size := Nat.lt_of_lt_of_le hb hg.size
    cases hvt : valT (or3T (truthV y) (truthV z)) with
    | none =>
      rw [hvt] at ha
      have HV := Lib.hid hvt
      clear hvt
      go_region_held3 (fun w' => Grow w w' ∧ Same w w') (exact Grow.both (by repeat (with_reducible first | exact Grow.refl _ | assumption | refine Grow.drew ?_ | refine Grow.alloc ?_ _ | refine Grow.set ?_ (by first | exact Nat.le_refl _ | (simp; done) | (simp; omega) | omega) _ | exact And.left (by assumption) | refine Grow.trans ?_ (by assumption)))) (first | (go_at_call 158; refine (truth_any _ _ _ _).mono ?_; rintro e w4 ⟨rfl, hb4⟩; replace hbw := hbw.trans hb4; clear hb4; have hc4 := hbw.same) | (go_at_call 186; refine (iOr3_any _ _ _).mono ?_; rintro e w4 ⟨rfl, hb4⟩; replace hbw := hbw.trans hb4; clear hb4; have hc4 := hbw.same) | (go_at_call 182; refine (valOf_none _ _ HV.out (or3T_in _ _)).mono ?_; rintro e w5 ⟨k, n, s, rfl, hb5⟩; replace hbw := hbw.trans hb5; clear hb5; have m1 : ∀ o, w5.cell? ⟨w.heap.size + 1, o, none⟩ = _ := fun o => (hbw.same _ _ s1).trans (k1 o); have n1 : ∀ o, w5.frozen? ⟨w.heap.size + 1, o, none⟩ = _ := fun o => (hbw.sameF _ _ s1).trans (f1 o)))
      all_goals go_wp2
      all_goals exact bodyPost_ret (v := .tuple #[.agg #[.int .i64 k, .int .i64 n, .string s], .bool false]) (by simp [results, Tryz.results173, go_sem, Act.put, m1]) rfl (optV_none ha.out (by repeat (with_reducible first | exact Grow.refl _ | assumption | refine Grow.drew ?_ | refine Grow.alloc ?_ _ | refine Grow.set ?_ (by first | exact Nat.le_refl _ | (simp; done) | (simp; omega) | omega) _ | exact And.left (by assumption) | refine Grow.trans ?_ (by assumption))))
    | some u =>
      rw [hvt] at ha
      have HV := Lib.hid hvt
      clear hvt
      go_region_held3 (fun w' => Grow w w' ∧ Same w w') (exact Grow.both (by repeat (with_reducible first | exact Grow.refl _ | assumption | refine Grow.drew ?_ | refine Grow.alloc ?_ _ | refine Grow.set ?_ (by first | exact Nat.le_refl _ | (simp; done) | (simp; omega) | omega) _ | exact And.left (by assumption) | refine Grow.trans ?_ (by assumption)))) (first | (go_at_call 158; refine (truth_any _ _ _ _).mono ?_; rintro e w4 ⟨rfl, hb4⟩; replace hbw := hbw.trans hb4; clear hb4; have hc4 := hbw.same) | (go_at_call 186; refine (iOr3_any _ _ _).mono ?_; rintro e w4 ⟨rfl, hb4⟩; replace hbw := hbw.trans hb4; clear hb4; have hc4 := hbw.same) | (go_at_call 182; refine (valOf_some _ _ HV.out (or3T_in _ _)).mono ?_; rintro e w5 ⟨rfl, hb5⟩; replace hbw := hbw.trans hb5; clear hb5; have m1 : ∀ o, w5.cell? ⟨w.heap.size + 1, o, none⟩ = _ := fun o => (hbw.same _ _ s1).trans (k1 o); have n1 : ∀ o, w5.frozen? ⟨w.heap.size + 1, o, none⟩ = _ := fun o => (hbw.sameF _ _ s1).trans (f1 o)))
      all_goals go_wp2
      all_goals exact bodyPost_ret (v := .tuple #[.agg #[.int .i64 u.kind, .int .i64 u.n, .string u.s], .bool true]) (by simp [results, Tryz.results173, go_sem, Act.put, m1]) rfl (optV_some ha.out (by repeat (with_reducible first | exact Grow.refl _ | assumption | refine Grow.drew ?_ | refine Grow.alloc ?_ _ | refine Grow.set ?_ (by first | exact Nat.le_refl _ | (simp; done) | (simp; omega) | omega) _ | exact And.left (by assumption) | refine Grow.trans ?_ (by assumption))))
  · have h2 : la = 1 := by simp [takesB] at hla; omega
    subst h2
    obtain ⟨b, off, y, rfl, hy, _, hb, hs, c0, c1, c2⟩ := val_at hl (i := 0) (by omega)
    simp only [Nat.zero_mul, Nat.add_zero] at c0 c1 c2
    have ha := Lib.hid (show applyV ⟨7, col, v⟩ l row = valT (not3 (truthV y)) by simp [applyV, hy.out])
    clear ht hla hok
    go_enter Tryz.func173, Tryz.ntmps173
    go_wp2_with fail
    generalize hW : World.alloc (World.alloc w _) _ = W
    obtain ⟨hg, s0, s1, b0, b1⟩ := boxedB2 hW
    clear hW
    obtain ⟨k1, f1⟩ := free_of b1
    clear b0 b1
    have hbw := Grow.refl W
    have hbW : b < W.heap.size := Nat.lt_of_lt_of_le hb hg.size
    replace c0 := (hg.same _ _ hb).trans c0
    replace c1 := (hg.same _ _ hb).trans c1
    replace c2 := (hg.same _ _ hb).trans c2
    cases hvt : valT (not3 (truthV y)) with
    | none =>
      rw [hvt] at ha
      have HV := Lib.hid hvt
      clear hvt
      go_wp2_with (first | (go_at_call 158; refine (truth_any _ _ _ _).mono ?_; rintro e w4 ⟨rfl, hb4⟩; replace hbw := hbw.trans hb4; clear hb4; have hc4 := hbw.same) | (go_at_call 187; refine (iNot3_any _ _).mono ?_; rintro e w4 ⟨rfl, hb4⟩; replace hbw := hbw.trans hb4; clear hb4; have hc4 := hbw.same) | (go_at_call 182; refine (valOf_none _ _ HV.out (not3_in _)).mono ?_; rintro e w5 ⟨k, n, s, rfl, hb5⟩; replace hbw := hbw.trans hb5; clear hb5; have m1 : ∀ o, w5.cell? ⟨w.heap.size + 1, o, none⟩ = _ := fun o => (hbw.same _ _ s1).trans (k1 o); have n1 : ∀ o, w5.frozen? ⟨w.heap.size + 1, o, none⟩ = _ := fun o => (hbw.sameF _ _ s1).trans (f1 o)))
      all_goals exact bodyPost_ret (v := .tuple #[.agg #[.int .i64 k, .int .i64 n, .string s], .bool false]) (by simp [results, Tryz.results173, go_sem, Act.put, m1]) rfl (optV_none ha.out (by repeat (with_reducible first | exact Grow.refl _ | assumption | refine Grow.drew ?_ | refine Grow.alloc ?_ _ | refine Grow.set ?_ (by first | exact Nat.le_refl _ | (simp; done) | (simp; omega) | omega) _ | exact And.left (by assumption) | refine Grow.trans ?_ (by assumption))))
    | some u =>
      rw [hvt] at ha
      have HV := Lib.hid hvt
      clear hvt
      go_wp2_with (first | (go_at_call 158; refine (truth_any _ _ _ _).mono ?_; rintro e w4 ⟨rfl, hb4⟩; replace hbw := hbw.trans hb4; clear hb4; have hc4 := hbw.same) | (go_at_call 187; refine (iNot3_any _ _).mono ?_; rintro e w4 ⟨rfl, hb4⟩; replace hbw := hbw.trans hb4; clear hb4; have hc4 := hbw.same) | (go_at_call 182; refine (valOf_some _ _ HV.out (not3_in _)).mono ?_; rintro e w5 ⟨rfl, hb5⟩; replace hbw := hbw.trans hb5; clear hb5; have m1 : ∀ o, w5.cell? ⟨w.heap.size + 1, o, none⟩ = _ := fun o => (hbw.same _ _ s1).trans (k1 o); have n1 : ∀ o, w5.frozen? ⟨w.heap.size + 1, o, none⟩ = _ := fun o => (hbw.sameF _ _ s1).trans (f1 o)))
      all_goals exact bodyPost_ret (v := .tuple #[.agg #[.int .i64 u.kind, .int .i64 u.n, .string u.s], .bool true]) (by simp [results, Tryz.results173, go_sem, Act.put, m1]) rfl (optV_some ha.out (by repeat (with_reducible first | exact Grow.refl _ | assumption | refine Grow.drew ?_ | refine Grow.alloc ?_ _ | refine Grow.set ?_ (by first | exact Nat.le_refl _ | (simp; done) | (simp; omega) | omega) _ | exact And.left (by assumption) | refine Grow.trans ?_ (by assumption))))
  · have h2 : la = 1 := by simp [takesB] at hla; omega
    subst h2
    obtain ⟨b, off, y, rfl, hy, _, hb, hs, c0, c1, c2⟩ := val_at hl (i := 0) (by omega)
    simp only [Nat.zero_mul, Nat.add_zero] at c0 c1 c2
    have ha := Lib.hid (show applyV ⟨8, col, v⟩ l row = some (vInt (if y.kind = 0 then 1 else 0)) by simp [applyV, hy.out])
    clear ht hla hok
    go_enter Tryz.func173, Tryz.ntmps173
    go_wp2_with fail
    generalize hW : World.alloc (World.alloc w _) _ = W
    obtain ⟨hg, s0, s1, b0, b1⟩ := boxedB2 hW
    clear hW
    obtain ⟨k1, f1⟩ := free_of b1
    clear b0 b1
    have hbw := Grow.refl W
    have hbW : b < W.heap.size := Nat.lt_of_lt_of_le hb hg.size
    replace c0 := (hg.same _ _ hb).trans c0
    replace c1 := (hg.same _ _ hb).trans c1
    replace c2 := (hg.same _ _ hb).trans c2
    by_cases hy0 : y.kind = 0
    · have hyk : (y.kind == 0) = true := by simpa using hy0
      rw [if_pos hy0] at ha
      clear hy0
      go_wp2_with (first | (go_at_call 174; (with_reducible refine (truthOf_any _ _).mono ?_); rintro e w' ⟨rfl, rfl⟩) | (go_at_call 182; refine (valOf_some _ _ (u := vInt 1) rfl (by decide)).mono ?_; rintro e w5 ⟨rfl, hb5⟩; replace hbw := hbw.trans hb5; clear hb5; have m1 : ∀ o, w5.cell? ⟨w.heap.size + 1, o, none⟩ = _ := fun o => (hbw.same _ _ s1).trans (k1 o); have n1 : ∀ o, w5.frozen? ⟨w.heap.size + 1, o, none⟩ = _ := fun o => (hbw.sameF _ _ s1).trans (f1 o)))
      exact bodyPost_ret (v := .tuple #[.agg #[.int .i64 1, .int .i64 1, .string ⟨#[]⟩], .bool true]) (by simp [results, Tryz.results173, go_sem, Act.put, m1, vInt]) rfl (optV_some ha.out (by repeat (with_reducible first | exact Grow.refl _ | assumption | refine Grow.drew ?_ | refine Grow.alloc ?_ _ | refine Grow.set ?_ (by first | exact Nat.le_refl _ | (simp; done) | (simp; omega) | omega) _ | exact And.left (by assumption) | refine Grow.trans ?_ (by assumption))))
    · have hyk : (y.kind == 0) = false := by simpa using hy0
      rw [if_neg hy0] at ha
      clear hy0
      go_wp2_with (first | (go_at_call 174; (with_reducible refine (truthOf_any _ _).mono ?_); rintro e w' ⟨rfl, rfl⟩) | (go_at_call 182; refine (valOf_some _ _ (u := vInt 0) rfl (by decide)).mono ?_; rintro e w5 ⟨rfl, hb5⟩; replace hbw := hbw.trans hb5; clear hb5; have m1 : ∀ o, w5.cell? ⟨w.heap.size + 1, o, none⟩ = _ := fun o => (hbw.same _ _ s1).trans (k1 o); have n1 : ∀ o, w5.frozen? ⟨w.heap.size + 1, o, none⟩ = _ := fun o => (hbw.sameF _ _ s1).trans (f1 o)))
      exact bodyPost_ret (v := .tuple #[.agg #[.int .i64 1, .int .i64 0, .string ⟨#[]⟩], .bool true]) (by simp [results, Tryz.results173, go_sem, Act.put, m1, vInt]) rfl (optV_some ha.out (by repeat (with_reducible first | exact Grow.refl _ | assumption | refine Grow.drew ?_ | refine Grow.alloc ?_ _ | refine Grow.set ?_ (by first | exact Nat.le_refl _ | (simp; done) | (simp; omega) | omega) _ | exact And.left (by assumption) | refine Grow.trans ?_ (by assumption))))
  · have h2 : la = 2 := by simp [takesB] at hla; omega
    subst h2
    obtain ⟨b, off, y, rfl, hy, _, hb, hs, c0, c1, c2⟩ := val_at hl (i := 0) (by omega)
    obtain ⟨b', off', z, he, hz, _, hb', hs', d0, d1, d2⟩ := val_at hl (i := 1) (by omega)
    simp only [Option.some.injEq, Addr.mk.injEq, and_true] at he
    obtain ⟨rfl, rfl⟩ := he
    simp only [Nat.zero_mul, Nat.one_mul, Nat.add_zero, Nat.zero_add] at c0 c1 c2 d0 d1 d2
    have ha := Lib.hid (show applyV ⟨9, col, v⟩ l row = sumV y z 1 by simp [applyV, hy.out, hz.out, two])
    have oy := Lib.hid (hok y (mem_of_at hy.out))
    have oz := Lib.hid (hok z (mem_of_at hz.out))
    clear ht hla hok
    go_enter Tryz.func173, Tryz.ntmps173
    go_wp2_with fail
    generalize hW : World.alloc (World.alloc w _) _ = W
    obtain ⟨hg, s0, s1, b0, b1⟩ := boxedB2 hW
    clear hW
    obtain ⟨k1, f1⟩ := free_of b1
    clear b0 b1
    have hbw := (Grow.refl W).drew
    have hbW : b < W.heap.size := Nat.lt_of_lt_of_le hb hg.size
    cases hvt : sumV y z 1 with
    | none =>
      rw [hvt] at ha
      have HV := Lib.hid hvt
      clear hvt
      go_region_held3 (fun w' => Grow w w' ∧ Same w w') (exact Grow.both (by repeat (with_reducible first | exact Grow.refl _ | assumption | refine Grow.drew ?_ | refine Grow.alloc ?_ _ | refine Grow.set ?_ (by first | exact Nat.le_refl _ | (simp; done) | (simp; omega) | omega) _ | exact And.left (by assumption) | refine Grow.trans ?_ (by assumption)))) (first | (go_at_call 188; refine (sumOf_none y z _ _ HV.out oy.out oz.out (by decide)).mono ?_; rintro e w5 ⟨k, n, s, rfl, hb5⟩; replace hbw := hbw.trans hb5; clear hb5; have m1 : ∀ o, w5.cell? ⟨w.heap.size + 1, o, none⟩ = _ := fun o => (hbw.same _ _ s1).trans (k1 o); have n1 : ∀ o, w5.frozen? ⟨w.heap.size + 1, o, none⟩ = _ := fun o => (hbw.sameF _ _ s1).trans (f1 o)))
      go_wp2
      exact bodyPost_ret (v := .tuple #[.agg #[.int .i64 k, .int .i64 n, .string s], .bool false]) (by simp [results, Tryz.results173, go_sem, Act.put, m1]) rfl (optV_none ha.out (by repeat (with_reducible first | exact Grow.refl _ | assumption | refine Grow.drew ?_ | refine Grow.alloc ?_ _ | refine Grow.set ?_ (by first | exact Nat.le_refl _ | (simp; done) | (simp; omega) | omega) _ | exact And.left (by assumption) | refine Grow.trans ?_ (by assumption))))
    | some u =>
      rw [hvt] at ha
      have HV := Lib.hid hvt
      clear hvt
      go_region_held3 (fun w' => Grow w w' ∧ Same w w') (exact Grow.both (by repeat (with_reducible first | exact Grow.refl _ | assumption | refine Grow.drew ?_ | refine Grow.alloc ?_ _ | refine Grow.set ?_ (by first | exact Nat.le_refl _ | (simp; done) | (simp; omega) | omega) _ | exact And.left (by assumption) | refine Grow.trans ?_ (by assumption)))) (first | (go_at_call 188; refine (sumOf_some y z _ _ HV.out oy.out oz.out (by decide)).mono ?_; rintro e w5 ⟨rfl, hb5⟩; replace hbw := hbw.trans hb5; clear hb5; have m1 : ∀ o, w5.cell? ⟨w.heap.size + 1, o, none⟩ = _ := fun o => (hbw.same _ _ s1).trans (k1 o); have n1 : ∀ o, w5.frozen? ⟨w.heap.size + 1, o, none⟩ = _ := fun o => (hbw.sameF _ _ s1).trans (f1 o)))
      go_wp2
      exact bodyPost_ret (v := .tuple #[.agg #[.int .i64 u.kind, .int .i64 u.n, .string u.s], .bool true]) (by simp [results, Tryz.results173, go_sem, Act.put, m1]) rfl (optV_some ha.out (by repeat (with_reducible first | exact Grow.refl _ | assumption | refine Grow.drew ?_ | refine Grow.alloc ?_ _ | refine Grow.set ?_ (by first | exact Nat.le_refl _ | (simp; done) | (simp; omega) | omega) _ | exact And.left (by assumption) | refine Grow.trans ?_ (by assumption))))
  · have h2 : la = 2 := by simp [takesB] at hla; omega
    subst h2
    obtain ⟨b, off, y, rfl, hy, _, hb, hs, c0, c1, c2⟩ := val_at hl (i := 0) (by omega)
    obtain ⟨b', off', z, he, hz, _, hb', hs', d0, d1, d2⟩ := val_at hl (i := 1) (by omega)
    simp only [Option.some.injEq, Addr.mk.injEq, and_true] at he
    obtain ⟨rfl, rfl⟩ := he
    simp only [Nat.zero_mul, Nat.one_mul, Nat.add_zero, Nat.zero_add] at c0 c1 c2 d0 d1 d2
    have ha := Lib.hid (show applyV ⟨10, col, v⟩ l row = sumV y z (-1) by simp [applyV, hy.out, hz.out, two])
    have oy := Lib.hid (hok y (mem_of_at hy.out))
    have oz := Lib.hid (hok z (mem_of_at hz.out))
    clear ht hla hok
    go_enter Tryz.func173, Tryz.ntmps173
    go_wp2_with fail
    generalize hW : World.alloc (World.alloc w _) _ = W
    obtain ⟨hg, s0, s1, b0, b1⟩ := boxedB2 hW
    clear hW
    obtain ⟨k1, f1⟩ := free_of b1
    clear b0 b1
    have hbw := (Grow.refl W).drew
    have hbW : b < W.heap.size := Nat.lt_of_lt_of_le hb hg.size
    cases hvt : sumV y z (-1) with
    | none =>
      rw [hvt] at ha
      have HV := Lib.hid hvt
      clear hvt
      go_region_held3 (fun w' => Grow w w' ∧ Same w w') (exact Grow.both (by repeat (with_reducible first | exact Grow.refl _ | assumption | refine Grow.drew ?_ | refine Grow.alloc ?_ _ | refine Grow.set ?_ (by first | exact Nat.le_refl _ | (simp; done) | (simp; omega) | omega) _ | exact And.left (by assumption) | refine Grow.trans ?_ (by assumption)))) (first | (go_at_call 188; refine (sumOf_none y z _ _ HV.out oy.out oz.out (by decide)).mono ?_; rintro e w5 ⟨k, n, s, rfl, hb5⟩; replace hbw := hbw.trans hb5; clear hb5; have m1 : ∀ o, w5.cell? ⟨w.heap.size + 1, o, none⟩ = _ := fun o => (hbw.same _ _ s1).trans (k1 o); have n1 : ∀ o, w5.frozen? ⟨w.heap.size + 1, o, none⟩ = _ := fun o => (hbw.sameF _ _ s1).trans (f1 o)))
      go_wp2
      exact bodyPost_ret (v := .tuple #[.agg #[.int .i64 k, .int .i64 n, .string s], .bool false]) (by simp [results, Tryz.results173, go_sem, Act.put, m1]) rfl (optV_none ha.out (by repeat (with_reducible first | exact Grow.refl _ | assumption | refine Grow.drew ?_ | refine Grow.alloc ?_ _ | refine Grow.set ?_ (by first | exact Nat.le_refl _ | (simp; done) | (simp; omega) | omega) _ | exact And.left (by assumption) | refine Grow.trans ?_ (by assumption))))
    | some u =>
      rw [hvt] at ha
      have HV := Lib.hid hvt
      clear hvt
      go_region_held3 (fun w' => Grow w w' ∧ Same w w') (exact Grow.both (by repeat (with_reducible first | exact Grow.refl _ | assumption | refine Grow.drew ?_ | refine Grow.alloc ?_ _ | refine Grow.set ?_ (by first | exact Nat.le_refl _ | (simp; done) | (simp; omega) | omega) _ | exact And.left (by assumption) | refine Grow.trans ?_ (by assumption)))) (first | (go_at_call 188; refine (sumOf_some y z _ _ HV.out oy.out oz.out (by decide)).mono ?_; rintro e w5 ⟨rfl, hb5⟩; replace hbw := hbw.trans hb5; clear hb5; have m1 : ∀ o, w5.cell? ⟨w.heap.size + 1, o, none⟩ = _ := fun o => (hbw.same _ _ s1).trans (k1 o); have n1 : ∀ o, w5.frozen? ⟨w.heap.size + 1, o, none⟩ = _ := fun o => (hbw.sameF _ _ s1).trans (f1 o)))
      go_wp2
      exact bodyPost_ret (v := .tuple #[.agg #[.int .i64 u.kind, .int .i64 u.n, .string u.s], .bool true]) (by simp [results, Tryz.results173, go_sem, Act.put, m1]) rfl (optV_some ha.out (by repeat (with_reducible first | exact Grow.refl _ | assumption | refine Grow.drew ?_ | refine Grow.alloc ?_ _ | refine Grow.set ?_ (by first | exact Nat.le_refl _ | (simp; done) | (simp; omega) | omega) _ | exact And.left (by assumption) | refine Grow.trans ?_ (by assumption))))
end Go.Proofs.YtjeilgogjoidjaaGreat
