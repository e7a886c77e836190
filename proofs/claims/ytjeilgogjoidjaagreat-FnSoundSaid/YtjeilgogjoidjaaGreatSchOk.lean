import Derived.Test.YtjeilgogjoidjaaGreatTabS
/-! Schemas: whether they are right. -/
namespace Go.Proofs.YtjeilgogjoidjaaGreat
open Go.RowKit
set_option linter.unusedVariables false
set_option linter.unusedSimpArgs false
def kindAt (cols : List Col) (c : Int) : Int := match cols[c.toNat]? with | some x => x.kind | none => 0
def metP (u t : Table) (i : Nat) (c : Int) : Bool := decide (kindAt u.cols ((u.key[i]?).getD 0) = kindAt t.cols c)
def metU (u t : Table) (f : Fk) : Bool := decide (u.key.length = f.cols.length) && allIx (metP u t) f.cols
def metB (s : List Table) (t : Table) (f : Fk) : Bool := match s.findIdx? (tabP1 f.table) with | some i => (match s[i]? with | some u => metU u t f | none => false) | none => false
def notMet (s : List Table) (t : Table) (f : Fk) : Bool := !metB s t f
def tabBad (s : List Table) (t : Table) : Bool := t.fks.any (notMet s t)
def tabQ (s : List Table) (i : Nat) (t : Table) : Bool := tableOkB t && !((s.take i).any (tabP1 t.name))
def schemaOkB (s : List Table) : Bool := decide (s.length ≤ 5) && allIx (tabQ s) s && !(s.any (tabBad s))
theorem idx_cases {α : Type} (p : α → Bool) (xs : List α) : (idxOf p xs = -1 ∧ xs.findIdx? p = none) ∨ ∃ (i : Nat) (x : α), xs[i]? = some x ∧ idxOf p xs = (i : Int) ∧ xs.findIdx? p = some i := by
  unfold idxOf
  cases h : xs.findIdx? p with
  | none => exact .inl ⟨rfl, rfl⟩
  | some i =>
    obtain ⟨hi, _⟩ := List.findIdx?_eq_some_iff_getElem.mp h
    exact .inr ⟨i, xs[i], List.getElem?_eq_getElem hi, rfl, rfl⟩
theorem tableOkB_parts {t : Table} (h : tableOkB t = true) : colsB t.key t.cols.length = true ∧ 1 ≤ t.cols.length ∧ t.cols.length ≤ 8 ∧ ∀ f ∈ t.fks, fkB t.cols.length f = true := by
  simp only [tableOkB, Bool.and_eq_true, colsOkB, decide_eq_true_eq, Bool.not_eq_true'] at h
  refine ⟨h.1.1.1.1.1.1.1.2, h.1.1.1.1.1.1.1.1.2.1.1, h.1.1.1.1.1.1.1.1.2.1.2, fun f hf => ?_⟩
  have h2 := h.2
  unfold fkBad at h2
  have := List.any_eq_false.mp h2 f hf
  simpa [fkP] using this
theorem fkB_mem {n c : Int} {f : Fk} (h : fkB n f = true) (hc : c ∈ f.cols) : 0 ≤ c ∧ c < n := by
  simp only [fkB, Bool.and_eq_true] at h
  exact colsB_mem h.1.1.1 hc
theorem iTableAt_eq {A : Option Addr} {len cap : Nat} {xs : List Table} {name : ByteArray} {r : Int} (hr : idxOf (tabP1 name) xs = r) (w : World) (h : IsSl Kd.table w (· < w.heap.size) A len cap xs) :
    Calls Tryz.prog 90 #[.slice A len cap, .string name] w (Ret w (.int .i64 r)) := by
  subst hr; exact iTableAt_any name w h
theorem iTableAt_yes {A : Option Addr} {len cap : Nat} {xs : List Table} {name : ByteArray} (hr : xs.any (tabP1 name) = true) (w : World) (h : IsSl Kd.table w (· < w.heap.size) A len cap xs) :
    Calls Tryz.prog 90 #[.slice A len cap, .string name] w (fun e w' => ∃ q : Nat, Ret w (.int .i64 q) e w') :=
  (iTableAt_any name w h).mono fun e w' hv => by
    have h0 := (idxOf_any (tabP1 name) xs).trans hr
    obtain ⟨q, hq⟩ := Int.eq_ofNat_of_zero_le (of_decide_eq_true h0)
    exact ⟨q, by unfold tableAtV at hv; rw [hq] at hv; exact hv⟩
theorem any_idx {α : Type} {p : α → Bool} {xs : List α} (hr : xs.any p = false) : idxOf p xs = -1 := idxOf_none fun j hj => by
  have := List.any_eq_false.mp hr xs[j] (List.getElem_mem hj)
  simpa using this
theorem l3At_yes {A : Option Addr} {len cap : Nat} {xs : List Table} {name : ByteArray} (hr : xs.any (tabP1 name) = true) (w : World) (h : IsSl Kd.table w (· < w.heap.size) A len cap xs) :
    Calls Tryz.prog 136 #[.slice A len cap, .string name] w (fun e w' => ∃ q : Nat, Ret w (.int .i64 q) e w') :=
  (l3At_any name w h).mono fun e w' hv => by
    have h0 := (idxOf_any (tabP1 name) xs).trans hr
    obtain ⟨q, hq⟩ := Int.eq_ofNat_of_zero_le (of_decide_eq_true h0)
    exact ⟨q, by unfold tableAtV at hv; rw [hq] at hv; exact hv⟩
theorem l3At_eq {A : Option Addr} {len cap : Nat} {xs : List Table} {name : ByteArray} {r : Int} (hr : idxOf (tabP1 name) xs = r) (w : World) (h : IsSl Kd.table w (· < w.heap.size) A len cap xs) :
    Calls Tryz.prog 136 #[.slice A len cap, .string name] w (Ret w (.int .i64 r)) := by
  subst hr; exact l3At_any name w h
set_option maxHeartbeats 4000000 in
theorem isMet_any (cst csf : List Value) (t : Table) (f : Fk) {A : Option Addr} {len cap : Nat} {s : List Table} (w : World) (h : IsSl Kd.table w (· < w.heap.size) A len cap s) (ht : Kd.table.rd w (· < w.heap.size) cst t) (hf : Kd.fk.rd w (· < w.heap.size) csf f)
    (hs : ∀ u ∈ s, colsB u.key u.cols.length = true) (hfc : ∀ c ∈ f.cols, 0 ≤ c ∧ c < (t.cols.length : Int)) :
    Calls Tryz.prog 94 #[.slice A len cap, .agg cst.toArray, .agg csf.toArray] w (Ret w (.bool (metB s t f))) := by
  obtain ⟨Acols, Lcols, Ccols, Akey, Lkey, Ckey, Auniques, Luniques, Cuniques, Achecks, Lchecks, Cchecks, Afks, Lfks, Cfks, rfl, zname, scols, skey, suniques, schecks, sfks⟩ := ht
  obtain ⟨Af, Lf, Cf, rfl, ztab, sf⟩ := hf
  clear suniques schecks sfks skey zname
  obtain rfl := scols.1
  have hlen : len ≤ maxLen := Nat.le_trans h.2.1 h.2.2.1
  have hn1 : t.cols.length ≤ maxLen := Nat.le_trans scols.2.1 scols.2.2.1
  have hf1 : Lf ≤ maxLen := Nat.le_trans sf.2.1 sf.2.2.1
  have HL := Lib.hid h.1
  have HF := Lib.hid sf.1
  have HS := Lib.hid hs
  have HFC := Lib.hid hfc
  clear hs hfc
  unfold maxLen at hlen hn1 hf1
  rcases idx_cases (tabP1 f.table) s with ⟨ha, hfi⟩ | ⟨a, u, hu, ha, hfi⟩
  · have HA := Lib.hid ha
    have hr := Lib.hid (show metB s t f = false by simp only [metB, hfi])
    clear ha hfi
    go_enter Tryz.func94, Tryz.ntmps94
    go_wp2_with fail
    generalize hW : World.alloc (World.alloc w _) _ = W
    obtain ⟨hg, hs, hs', k1, k2⟩ := boxed2 hW
    clear hW
    have hcur := Grow.refl W
    have hc := hcur.same
    go_wp2_with (first | (go_at_call 90; (with_reducible refine (iTableAt_eq HA.out _ (h.grow (hg.trans hcur))).mono ?_); rintro e w1 ⟨rfl, hb⟩; replace hcur := hcur.trans hb; replace hc := hcur.same; clear hb))
    refine wp_region_held_drew (S := (fun w' => Grow w1 w' ∧ Same w1 w')) (by kernel_rfl) (by exact Grow.both (by repeat (with_reducible first | exact Grow.refl _ | assumption | refine Grow.drew ?_ | refine Grow.alloc ?_ _ | refine Grow.set ?_ (by first | exact Nat.le_refl _ | (simp; done) | (simp; omega) | omega) _ | exact And.left (by assumption) | refine Grow.trans ?_ (by assumption)))) (fun hHeld => ?_)
    (((refine tk 0 14 rfl rfl (v := ?_) ?_ ?_; rotate_left 1; (focus (intro w hSw; (try dsimp only at hSw); go_simp; (try with_reducible rfl); done)); all_goals (try simp only [Act.put, List.setIfInBounds_toArray, List.set_cons_zero, List.set_cons_succ])); (refine tk 1 15 rfl rfl (v := ?_) ?_ ?_; rotate_left 1; (focus (intro w hSw; (try dsimp only at hSw); go_simp; (try with_reducible rfl); done)); all_goals (try simp only [Act.put, List.setIfInBounds_toArray, List.set_cons_zero, List.set_cons_succ])); (refine tk 2 16 rfl rfl (v := ?_) ?_ ?_; rotate_left 1; (focus (intro w hSw; (try dsimp only at hSw); go_simp; (try with_reducible rfl); done)); all_goals (try simp only [Act.put, List.setIfInBounds_toArray, List.set_cons_zero, List.set_cons_succ]))); (refine sk 3 17 rfl rfl ?_; (try simp only [Act.put, List.setIfInBounds_toArray, List.set_cons_zero, List.set_cons_succ]); refine sk 4 18 rfl rfl ?_; (try simp only [Act.put, List.setIfInBounds_toArray, List.set_cons_zero, List.set_cons_succ]); refine sk 5 19 rfl rfl ?_; (try simp only [Act.put, List.setIfInBounds_toArray, List.set_cons_zero, List.set_cons_succ]); refine sk 6 20 rfl rfl ?_; (try simp only [Act.put, List.setIfInBounds_toArray, List.set_cons_zero, List.set_cons_succ]); refine sk 7 21 rfl rfl ?_; (try simp only [Act.put, List.setIfInBounds_toArray, List.set_cons_zero, List.set_cons_succ]); refine sk 8 22 rfl rfl ?_; (try simp only [Act.put, List.setIfInBounds_toArray, List.set_cons_zero, List.set_cons_succ]); refine sk 9 23 rfl rfl ?_; (try simp only [Act.put, List.setIfInBounds_toArray, List.set_cons_zero, List.set_cons_succ]); refine sk 10 24 rfl rfl ?_; (try simp only [Act.put, List.setIfInBounds_toArray, List.set_cons_zero, List.set_cons_succ]); refine sk 11 25 rfl rfl ?_; (try simp only [Act.put, List.setIfInBounds_toArray, List.set_cons_zero, List.set_cons_succ]); refine sk 12 26 rfl rfl ?_; (try simp only [Act.put, List.setIfInBounds_toArray, List.set_cons_zero, List.set_cons_succ])); ((refine tk 13 27 rfl rfl (v := ?_) ?_ ?_; rotate_left 1; (focus (intro w hSw; (try dsimp only at hSw); go_simp; (try with_reducible rfl); done)); all_goals (try simp only [Act.put, List.setIfInBounds_toArray, List.set_cons_zero, List.set_cons_succ]))); refine wpAnyH_done (by kernel_rfl) ?_ _)
    obtain ⟨hcur2, hc2⟩ : Grow w1 _ ∧ Same w1 _ := hHeld
    go_wp2
    go_ret
    exact ⟨ret_bool hr.out.symm, hg.trans (hcur.trans hcur2)⟩
  have hal : a < len := by have := (List.getElem?_eq_some_iff.mp hu).1; rw [HL.out] at this; exact this
  have hr := Lib.hid (show metB s t f = metU u t f by simp only [metB, hfi, hu])
  have HA := Lib.hid ha
  clear ha hfi
  go_enter Tryz.func94, Tryz.ntmps94
  go_wp2_with fail
  generalize hW : World.alloc (World.alloc w _) _ = W
  obtain ⟨hg, hs, hs', k1, k2⟩ := boxed2 hW
  clear hW
  have hcur := Grow.refl W
  have hc := hcur.same
  go_wp2_with (first | (go_at_call 90; (with_reducible refine (iTableAt_eq HA.out _ (h.grow (hg.trans hcur))).mono ?_); rintro e w1 ⟨rfl, hb⟩; replace hcur := hcur.trans hb; replace hc := hcur.same; clear hb))
  have hw1 := hg.trans hcur
  have sT := Nat.lt_of_lt_of_le hs hcur.size
  have sF := Nat.lt_of_lt_of_le hs' hcur.size
  obtain ⟨b, off, x, Bcols, Mcols, Dcols, Bkey, Mkey, Dkey, Buniques, Muniques, Duniques, Bchecks, Mchecks, Dchecks, Bfks, Mfks, Dfks, rfl, hx, _, hb, zname', c0, c1, c2, c3, c4, c5, ucols, ukey, -, -, -, -⟩ := table_at (h.grow hw1) hal
  obtain rfl : u = x := Option.some.inj (hu.symm.trans hx.out)
  obtain rfl := ucols.1
  have HKL := Lib.hid ukey.1
  have hk1 : Mkey ≤ maxLen := Nat.le_trans ukey.2.1 ukey.2.2.1
  have hu1 : u.cols.length ≤ maxLen := Nat.le_trans ucols.2.1 ucols.2.2.1
  unfold maxLen at hk1 hu1
  have HUK := Lib.hid (HS.out u (List.mem_of_getElem? hu))
  have i0 : (0 : Int) ≤ (a : Int) := Int.natCast_nonneg a
  have i1 : (a : Int) < (len : Int) := Int.ofNat_lt.mpr hal
  clear c0 c3 c4 c5 hx
  by_cases hkl : Mkey = Lf
  rotate_left
  · have hr2 := Lib.hid (show metB s t f = false by rw [hr.out, metU, HKL.out, HF.out, decide_eq_false hkl, Bool.false_and])
    have hkl' : ((Mkey : Int) != (Lf : Int)) = true := by simp; omega
    refine wp_region_held_drew (S := (fun w' => Grow w1 w' ∧ Same w1 w')) (by kernel_rfl) (by exact Grow.both (by repeat (with_reducible first | exact Grow.refl _ | assumption | refine Grow.drew ?_ | refine Grow.alloc ?_ _ | refine Grow.set ?_ (by first | exact Nat.le_refl _ | (simp; done) | (simp; omega) | omega) _ | exact And.left (by assumption) | refine Grow.trans ?_ (by assumption)))) (fun hHeld => ?_)
    (((refine tk 0 14 rfl rfl (v := ?_) ?_ ?_; rotate_left 1; (focus (intro w hSw; (try dsimp only at hSw); go_simp; (try with_reducible rfl); done)); all_goals (try simp only [Act.put, List.setIfInBounds_toArray, List.set_cons_zero, List.set_cons_succ])); (refine tk 1 15 rfl rfl (v := ?_) ?_ ?_; rotate_left 1; (focus (intro w hSw; (try dsimp only at hSw); go_simp; (try with_reducible rfl); done)); all_goals (try simp only [Act.put, List.setIfInBounds_toArray, List.set_cons_zero, List.set_cons_succ])); (refine tk 2 16 rfl rfl (v := ?_) ?_ ?_; rotate_left 1; (focus (intro w hSw; (try dsimp only at hSw); go_simp; (try with_reducible rfl); done)); all_goals (try simp only [Act.put, List.setIfInBounds_toArray, List.set_cons_zero, List.set_cons_succ])); (refine tk 3 17 rfl rfl (v := ?_) ?_ ?_; rotate_left 1; (focus (intro w hSw; (try dsimp only at hSw); go_simp; (try with_reducible rfl); done)); all_goals (try simp only [Act.put, List.setIfInBounds_toArray, List.set_cons_zero, List.set_cons_succ])); (refine tk 4 18 rfl rfl (v := ?_) ?_ ?_; rotate_left 1; (focus (intro w hSw; (try dsimp only at hSw); go_simp; (try with_reducible rfl); done)); all_goals (try simp only [Act.put, List.setIfInBounds_toArray, List.set_cons_zero, List.set_cons_succ])); (refine tk 5 19 rfl rfl (v := ?_) ?_ ?_; rotate_left 1; (focus (intro w hSw; (try dsimp only at hSw); go_simp; (try with_reducible rfl); done)); all_goals (try simp only [Act.put, List.setIfInBounds_toArray, List.set_cons_zero, List.set_cons_succ])); (refine tk 6 20 rfl rfl (v := ?_) ?_ ?_; rotate_left 1; (focus (intro w hSw; (try dsimp only at hSw); go_simp; (try with_reducible rfl); done)); all_goals (try simp only [Act.put, List.setIfInBounds_toArray, List.set_cons_zero, List.set_cons_succ])); (refine tk 7 21 rfl rfl (v := ?_) ?_ ?_; rotate_left 1; (focus (intro w hSw; (try dsimp only at hSw); go_simp; (try with_reducible rfl); done)); all_goals (try simp only [Act.put, List.setIfInBounds_toArray, List.set_cons_zero, List.set_cons_succ])); (refine tk 8 22 rfl rfl (v := ?_) ?_ ?_; rotate_left 1; (focus (intro w hSw; (try dsimp only at hSw); go_simp; (try with_reducible rfl); done)); all_goals (try simp only [Act.put, List.setIfInBounds_toArray, List.set_cons_zero, List.set_cons_succ])); (refine tk 9 23 rfl rfl (v := ?_) ?_ ?_; rotate_left 1; (focus (intro w hSw; (try dsimp only at hSw); go_simp; (try with_reducible rfl); done)); all_goals (try simp only [Act.put, List.setIfInBounds_toArray, List.set_cons_zero, List.set_cons_succ])); (refine tk 10 24 rfl rfl (v := ?_) ?_ ?_; rotate_left 1; (focus (intro w hSw; (try dsimp only at hSw); go_simp; (try with_reducible rfl); done)); all_goals (try simp only [Act.put, List.setIfInBounds_toArray, List.set_cons_zero, List.set_cons_succ])); (refine tk 11 25 rfl rfl (v := ?_) ?_ ?_; rotate_left 1; (focus (intro w hSw; (try dsimp only at hSw); go_simp; (try with_reducible rfl); done)); all_goals (try simp only [Act.put, List.setIfInBounds_toArray, List.set_cons_zero, List.set_cons_succ])); (refine tk 12 26 rfl rfl (v := ?_) ?_ ?_; rotate_left 1; (focus (intro w hSw; (try dsimp only at hSw); go_simp; (try with_reducible rfl); done)); all_goals (try simp only [Act.put, List.setIfInBounds_toArray, List.set_cons_zero, List.set_cons_succ])); (refine tk 13 27 rfl rfl (v := ?_) ?_ ?_; rotate_left 1; (focus (intro w hSw; (try dsimp only at hSw); go_simp; (try with_reducible rfl); done)); all_goals (try simp only [Act.put, List.setIfInBounds_toArray, List.set_cons_zero, List.set_cons_succ]))); refine wpAnyH_done (by kernel_rfl) ?_ _)
    obtain ⟨hcur2, hc2⟩ : Grow w1 _ ∧ Same w1 _ := hHeld
    go_wp2
    go_ret
    exact ⟨ret_bool hr2.out.symm, hw1.trans hcur2⟩
  subst hkl
  refine wp_region_held_drew (S := (fun w' => Grow w1 w' ∧ Same w1 w')) (by kernel_rfl) (by exact Grow.both (by repeat (with_reducible first | exact Grow.refl _ | assumption | refine Grow.drew ?_ | refine Grow.alloc ?_ _ | refine Grow.set ?_ (by first | exact Nat.le_refl _ | (simp; done) | (simp; omega) | omega) _ | exact And.left (by assumption) | refine Grow.trans ?_ (by assumption)))) (fun hHeld => ?_)
  (((refine tk 0 14 rfl rfl (v := ?_) ?_ ?_; rotate_left 1; (focus (intro w hSw; (try dsimp only at hSw); go_simp; (try with_reducible rfl); done)); all_goals (try simp only [Act.put, List.setIfInBounds_toArray, List.set_cons_zero, List.set_cons_succ])); (refine tk 1 15 rfl rfl (v := ?_) ?_ ?_; rotate_left 1; (focus (intro w hSw; (try dsimp only at hSw); go_simp; (try with_reducible rfl); done)); all_goals (try simp only [Act.put, List.setIfInBounds_toArray, List.set_cons_zero, List.set_cons_succ])); (refine tk 2 16 rfl rfl (v := ?_) ?_ ?_; rotate_left 1; (focus (intro w hSw; (try dsimp only at hSw); go_simp; (try with_reducible rfl); done)); all_goals (try simp only [Act.put, List.setIfInBounds_toArray, List.set_cons_zero, List.set_cons_succ])); (refine tk 3 17 rfl rfl (v := ?_) ?_ ?_; rotate_left 1; (focus (intro w hSw; (try dsimp only at hSw); go_simp; (try with_reducible rfl); done)); all_goals (try simp only [Act.put, List.setIfInBounds_toArray, List.set_cons_zero, List.set_cons_succ])); (refine tk 4 18 rfl rfl (v := ?_) ?_ ?_; rotate_left 1; (focus (intro w hSw; (try dsimp only at hSw); go_simp; (try with_reducible rfl); done)); all_goals (try simp only [Act.put, List.setIfInBounds_toArray, List.set_cons_zero, List.set_cons_succ])); (refine tk 5 19 rfl rfl (v := ?_) ?_ ?_; rotate_left 1; (focus (intro w hSw; (try dsimp only at hSw); go_simp; (try with_reducible rfl); done)); all_goals (try simp only [Act.put, List.setIfInBounds_toArray, List.set_cons_zero, List.set_cons_succ])); (refine tk 6 20 rfl rfl (v := ?_) ?_ ?_; rotate_left 1; (focus (intro w hSw; (try dsimp only at hSw); go_simp; (try with_reducible rfl); done)); all_goals (try simp only [Act.put, List.setIfInBounds_toArray, List.set_cons_zero, List.set_cons_succ])); (refine tk 7 21 rfl rfl (v := ?_) ?_ ?_; rotate_left 1; (focus (intro w hSw; (try dsimp only at hSw); go_simp; (try with_reducible rfl); done)); all_goals (try simp only [Act.put, List.setIfInBounds_toArray, List.set_cons_zero, List.set_cons_succ])); (refine tk 8 22 rfl rfl (v := ?_) ?_ ?_; rotate_left 1; (focus (intro w hSw; (try dsimp only at hSw); go_simp; (try with_reducible rfl); done)); all_goals (try simp only [Act.put, List.setIfInBounds_toArray, List.set_cons_zero, List.set_cons_succ])); (refine tk 9 23 rfl rfl (v := ?_) ?_ ?_; rotate_left 1; (focus (intro w hSw; (try dsimp only at hSw); go_simp; (try with_reducible rfl); done)); all_goals (try simp only [Act.put, List.setIfInBounds_toArray, List.set_cons_zero, List.set_cons_succ])); (refine tk 10 24 rfl rfl (v := ?_) ?_ ?_; rotate_left 1; (focus (intro w hSw; (try dsimp only at hSw); go_simp; (try with_reducible rfl); done)); all_goals (try simp only [Act.put, List.setIfInBounds_toArray, List.set_cons_zero, List.set_cons_succ])); (refine tk 11 25 rfl rfl (v := ?_) ?_ ?_; rotate_left 1; (focus (intro w hSw; (try dsimp only at hSw); go_simp; (try with_reducible rfl); done)); all_goals (try simp only [Act.put, List.setIfInBounds_toArray, List.set_cons_zero, List.set_cons_succ])); (refine tk 12 26 rfl rfl (v := ?_) ?_ ?_; rotate_left 1; (focus (intro w hSw; (try dsimp only at hSw); go_simp; (try with_reducible rfl); done)); all_goals (try simp only [Act.put, List.setIfInBounds_toArray, List.set_cons_zero, List.set_cons_succ])); (refine tk 13 27 rfl rfl (v := ?_) ?_ ?_; rotate_left 1; (focus (intro w hSw; (try dsimp only at hSw); go_simp; (try with_reducible rfl); done)); all_goals (try simp only [Act.put, List.setIfInBounds_toArray, List.set_cons_zero, List.set_cons_succ]))); refine wpAnyH_done (by kernel_rfl) ?_ _)
  obtain ⟨hcur2, hc2⟩ : Grow w1 _ ∧ Same w1 _ := hHeld
  go_wp2
  go_loopw [8, 9, 31] (fun _ _ i wr => ∃ k : Nat, k ≤ Mkey ∧ i = .int .i64 k ∧ Grow w1 wr ∧ IxTo (metP u t) f.cols k) (fun _ _ i _ => Mkey - (intOf i).toNat)
  case atStart => exact ⟨0, Nat.zero_le _, rfl, hcur2, IxTo.zero _ _⟩
  case round =>
    clear hcur2 hc2
    obtain ⟨k, hk, rfl, hG, hall⟩ := hrel
    have hG2 := hG.same
    have hwr := hw1.trans hG
    by_cases hlt : k < Mkey
    · obtain ⟨b1, off1, c, rfl, hxc, cc⟩ := int_at (sf.grow hwr) hlt
      have hbc := cells_lt cc
      obtain ⟨b2, off2, q, rfl, hxq, cq⟩ := int_at (ukey.grow hG) hlt
      have hbq := cells_lt cq
      obtain ⟨hc0, hc1⟩ := HFC.out c (mem_of_at hxc.out)
      obtain ⟨j, rfl⟩ := Int.eq_ofNat_of_zero_le hc0
      have hj : j < t.cols.length := by omega
      obtain ⟨hq0, hq1⟩ := colsB_mem HUK.out (mem_of_at hxq.out)
      obtain ⟨l, rfl⟩ := Int.eq_ofNat_of_zero_le hq0
      have hl : l < u.cols.length := by omega
      obtain ⟨b3, off3, y, rfl, hy, _, hb3, zn3, zd3, d0, d1, d2, d3, d4, d5, -⟩ := col_at (scols.grow hwr) hj
      obtain ⟨b4, off4, z, rfl, hz, _, hb4, zn4, zd4, e0, e1, e2, e3, e4, e5, -⟩ := col_at (ucols.grow hG) hl
      have k0 : (0 : Int) ≤ (k : Int) := Int.natCast_nonneg k
      have k1' : (k : Int) < (Mkey : Int) := Int.ofNat_lt.mpr hlt
      have HP := Lib.hid (show metP u t k (j : Int) = decide (z.kind = y.kind) by simp [metP, kindAt, hxq.out, hy.out, hz.out])
      clear d0 d2 d3 d4 d5 e0 e2 e3 e4 e5
      have hbr := Nat.lt_of_lt_of_le hb hG.size
      have hcb := fun o => hG2 b o hb
      have sTr := Nat.lt_of_lt_of_le sT hG.size
      have sFr := Nat.lt_of_lt_of_le sF hG.size
      by_cases hzy : z.kind = y.kind
      · have hp := Lib.hid (show metP u t k (j : Int) = true by rw [HP.out, decide_eq_true hzy])
        go_wp2
        go_region_held3 (fun w' => Grow wr w' ∧ Same wr w') (exact Grow.both (by repeat (with_reducible first | exact Grow.refl _ | assumption | refine Grow.drew ?_ | refine Grow.alloc ?_ _ | refine Grow.set ?_ (by first | exact Nat.le_refl _ | (simp; done) | (simp; omega) | omega) _ | exact And.left (by assumption) | refine Grow.trans ?_ (by assumption)))) (skip)
        have hcur3 := (Grow.refl wr).drew
        go_wp2
        go_roundw
        case rel => exact ⟨k + 1, by omega, by go_num, hG.trans hcur3, hall.succ hxc.out hp.out⟩
        case measure => simp [intOf]; omega
      · have hf2 := Lib.hid (show metB s t f = false by rw [hr.out, metU, allIx_false hxc.out (show metP u t k (j : Int) = false by rw [HP.out, decide_eq_false hzy]), Bool.and_false])
        go_wp2
        go_region_held3 (fun w' => Grow wr w' ∧ Same wr w') (exact Grow.both (by repeat (with_reducible first | exact Grow.refl _ | assumption | refine Grow.drew ?_ | refine Grow.alloc ?_ _ | refine Grow.set ?_ (by first | exact Nat.le_refl _ | (simp; done) | (simp; omega) | omega) _ | exact And.left (by assumption) | refine Grow.trans ?_ (by assumption)))) (skip)
        have hcur3 := (Grow.refl wr).drew
        go_wp2
        go_ret
        exact ⟨ret_bool hf2.out.symm, hwr.trans hcur3⟩
    · have hf2 := Lib.hid (show metB s t f = true by rw [hr.out, metU, hall.done (by rw [HF.out]; omega), HKL.out, HF.out, decide_eq_true rfl]; rfl)
      go_wp2
      go_ret
      exact ⟨ret_bool hf2.out.symm, hwr⟩
theorem enters_SchemaOk11 : Enters Tryz.prog 93 := ⟨fun a w => by go_simp⟩
theorem schemaOk11_any (cst csf : List Value) (t : Table) (f : Fk) (bs bt : Nat) {A : Option Addr} {len cap : Nat} {s : List Table} (w : World) (h : IsSl Kd.table w (· < w.heap.size) A len cap s) (ht : Kd.table.rd w (· < w.heap.size) cst t) (hf : Kd.fk.rd w (· < w.heap.size) csf f)
    (hs : ∀ u ∈ s, colsB u.key u.cols.length = true) (hfc : ∀ c ∈ f.cols, 0 ≤ c ∧ c < (t.cols.length : Int)) (hbs : bs < w.heap.size) (hbt : bt < w.heap.size) (hcs : w.cell? ⟨bs, 0, none⟩ = some (.slice A len cap)) (hct : ∀ o, w.cell? ⟨bt, o, none⟩ = cst.toArray[o]?) :
    Calls Tryz.prog 93 #[.agg csf.toArray, .pointer (some ⟨bs, 0, none⟩), .pointer (some ⟨bt, 0, none⟩)] w (Ret w (.bool (notMet s t f))) := by
  have HT := Lib.hid ht
  have HF := Lib.hid hf
  obtain ⟨Acols, Lcols, Ccols, Akey, Lkey, Ckey, Auniques, Luniques, Cuniques, Achecks, Lchecks, Cchecks, Afks, Lfks, Cfks, rfl, -, -, -, -, -, -⟩ := ht
  obtain ⟨Af, Lf, Cf, rfl, -, -⟩ := hf
  have HS := Lib.hid hs
  have HFC := Lib.hid hfc
  clear hs hfc
  go_enter Tryz.func93, Tryz.ntmps93
  go_wp2_with (first | (go_at_call 94; refine (isMet_any _ _ t f _ (h.grow (by first | exact Grow.refl _ | exact (Grow.refl _).alloc _)) (Kd.grow _ HT.out (by first | exact Grow.refl _ | exact (Grow.refl _).alloc _)) (Kd.grow _ HF.out (by first | exact Grow.refl _ | exact (Grow.refl _).alloc _)) HS.out HFC.out).mono ?_; rintro e w1 ⟨rfl, hb⟩))
  go_ret
  exact ⟨ret_bool rfl, (by repeat (with_reducible first | exact Grow.refl _ | assumption | refine Grow.drew ?_ | refine Grow.alloc ?_ _ | refine Grow.set ?_ (by first | exact Nat.le_refl _ | (simp; done) | (simp; omega) | omega) _ | exact And.left (by assumption) | refine Grow.trans ?_ (by assumption)))⟩
theorem enters_SchemaOk1 : Enters Tryz.prog 92 := ⟨fun a w => by go_simp⟩
theorem schemaOk1_any (cst : List Value) (t : Table) (bs : Nat) {A : Option Addr} {len cap : Nat} {s : List Table} (w : World) (h : IsSl Kd.table w (· < w.heap.size) A len cap s) (ht : Kd.table.rd w (· < w.heap.size) cst t)
    (hs : ∀ u ∈ s, tableOkB u = true) (hts : t ∈ s) (hbs : bs < w.heap.size) (hcs : w.cell? ⟨bs, 0, none⟩ = some (.slice A len cap)) :
    Calls Tryz.prog 92 #[.agg cst.toArray, .pointer (some ⟨bs, 0, none⟩)] w (Ret w (.bool (tabBad s t))) := by
  have HT := Lib.hid ht
  obtain ⟨Acols, Lcols, Ccols, Akey, Lkey, Ckey, Auniques, Luniques, Cuniques, Achecks, Lchecks, Cchecks, Afks, Lfks, Cfks, rfl, -, -, -, -, -, sfks⟩ := ht
  have HK := Lib.hid (fun u hu => (tableOkB_parts (hs u hu)).1 : ∀ u ∈ s, colsB u.key u.cols.length = true)
  have HFC := Lib.hid (fun f hf c hc => fkB_mem ((tableOkB_parts (hs t hts)).2.2.2 f hf) hc : ∀ f ∈ t.fks, ∀ c ∈ f.cols, 0 ≤ c ∧ c < (t.cols.length : Int))
  clear hs hts
  go_enter Tryz.func92, Tryz.ntmps92
  go_wp2_with fail
  generalize hW : World.alloc w _ = W
  obtain ⟨hg, hs', k1⟩ := boxed1 hW
  clear hW
  have hcur := Grow.refl W
  refine (containsFunc_fk _ enters_SchemaOk11 _ _ (notMet s t) _ (sfks.grow hg) (fun cs f w' hx hw hrd => by simpa using schemaOk11_any _ cs t f bs _ w' (h.grow (hg.trans hw)) (Kd.grow _ HT.out (hg.trans hw)) hrd HK.out (HFC.out f hx) (Nat.lt_of_lt_of_le hbs (hg.trans hw).size) (Nat.lt_of_lt_of_le hs' hw.size) (((hg.trans hw).same _ _ hbs).trans hcs) (fun o => (hw.same _ _ hs').trans (k1 o))) (r := tabBad s t) rfl).mono ?_
  rintro e w1 ⟨rfl, hb⟩
  go_wp2
  go_ret
  exact ⟨ret_bool rfl, hg.trans hb⟩
set_option maxHeartbeats 4000000 in
theorem iSchemaOk_any {A : Option Addr} {len cap : Nat} {s : List Table} (w : World) (h : IsSl Kd.table w (· < w.heap.size) A len cap s) :
    Calls Tryz.prog 38 #[.slice A len cap] w (Ret w (.bool (schemaOkB s))) := by
  have hlen : len ≤ maxLen := Nat.le_trans h.2.1 h.2.2.1
  have hcap : len ≤ cap := h.2.1
  have hcm : cap ≤ maxLen := h.2.2.1
  have HL := Lib.hid h.1
  unfold maxLen at hlen hcm
  by_cases h5 : len ≤ 5
  rotate_left
  · have hf := Lib.hid (show schemaOkB s = false by simp only [schemaOkB, HL.out]; rw [decide_eq_false h5]; rfl)
    have h5' : (5 : Int) < (len : Int) := by omega
    go_enter Tryz.func38, Tryz.ntmps38
    go_wp2
    go_ret
    exact ⟨ret_bool hf.out.symm, (by repeat (with_reducible first | exact Grow.refl _ | assumption | refine Grow.drew ?_ | refine Grow.alloc ?_ _ | refine Grow.set ?_ (by first | exact Nat.le_refl _ | (simp; done) | (simp; omega) | omega) _ | exact And.left (by assumption) | refine Grow.trans ?_ (by assumption)))⟩
  have h5' : ¬ (5 : Int) < (len : Int) := by omega
  go_enter Tryz.func38, Tryz.ntmps38
  go_wp2
  generalize hW : World.alloc w _ = W
  obtain ⟨hg, hs', k1⟩ := boxed1 hW
  clear hW
  have hcur := Grow.refl W
  go_loopw [3, 4, 10] (fun _ _ i wr => ∃ k : Nat, k ≤ len ∧ i = .int .i64 k ∧ Grow W wr ∧ IxTo (tabQ s) s k) (fun _ _ i _ => len - (intOf i).toNat)
  case atStart => exact ⟨0, Nat.zero_le _, rfl, hcur, IxTo.zero _ _⟩
  case round =>
    clear hcur
    obtain ⟨k, hk, rfl, hG, hall⟩ := hrel
    have hc := hG.same
    have sS := Nat.lt_of_lt_of_le hs' hG.size
    by_cases hlt : k < len
    · obtain ⟨b, off, x, Bcols, Mcols, Dcols, Bkey, Mkey, Dkey, Buniques, Muniques, Duniques, Bchecks, Mchecks, Dchecks, Bfks, Mfks, Dfks, rfl, hx, _, hb, zname', c0, c1, c2, c3, c4, c5, -, -, -, -, -, hrd⟩ := table_at (h.grow (hg.trans hG)) hlt
      have HRD := Lib.hid hrd
      have i0 : (0 : Int) ≤ (k : Int) := Int.natCast_nonneg k
      have i1 : (k : Int) < (len : Int) := Int.ofNat_lt.mpr hlt
      have i2 : (k : Int) ≤ (cap : Int) := by omega
      have bad := fun (h : tabQ s k x = false) => Lib.hid (show schemaOkB s = false by rw [schemaOkB, allIx_false hx.out h, Bool.and_false, Bool.false_and])
      clear hrd
      cases hn : tableOkB x with
      | false =>
        have hf := bad (by rw [tabQ, hn]; rfl)
        clear bad
        go_wp2_with fail
        generalize hV : World.alloc wr _ = V
        obtain ⟨gV, sV, kV⟩ := boxed1 hV
        clear hV
        have HR2 := Lib.hid (Kd.grow _ HRD.out gV)
        refine wp_region_held_drew (S := (fun w' => Grow V w' ∧ Same V w')) (by kernel_rfl) (by exact Grow.both (by repeat (with_reducible first | exact Grow.refl _ | assumption | refine Grow.drew ?_ | refine Grow.alloc ?_ _ | refine Grow.set ?_ (by first | exact Nat.le_refl _ | (simp; done) | (simp; omega) | omega) _ | exact And.left (by assumption) | refine Grow.trans ?_ (by assumption)))) (fun hHeld => ?_)
        (((refine tk 0 15 rfl rfl (v := ?_) ?_ ?_; rotate_left 1; (focus (intro w hSw; (try dsimp only at hSw); go_simp; (try with_reducible rfl); done)); all_goals (try simp only [Act.put, List.setIfInBounds_toArray, List.set_cons_zero, List.set_cons_succ]))); (refine wpAnyH_ready (rs := [1]) (by kernel_rfl) (by simp) ?_; refine AllReadyH.cons rfl (fun K hK => ?_) AllReadyH.nil; go_simp; (go_at_call 89; refine (iTableOk_any _ x _ (Kd.grow _ HR2.out (And.left (by assumption)))).mono ?_; rintro e w1 ⟨rfl, hb⟩); refine hK.out _ _ (by exact Grow.both (by repeat (with_reducible first | exact Grow.refl _ | assumption | refine Grow.drew ?_ | refine Grow.alloc ?_ _ | refine Grow.set ?_ (by first | exact Nat.le_refl _ | (simp; done) | (simp; omega) | omega) _ | exact And.left (by assumption) | refine Grow.trans ?_ (by assumption)))) (fun hHeld => ?_); clear hK K; (try refine held_put 16 rfl ?_); (try simp only [Act.put, List.setIfInBounds_toArray, List.set_cons_zero, List.set_cons_succ])); ((refine tk 2 17 rfl rfl (v := ?_) ?_ ?_; rotate_left 1; (focus (intro w hSw; (try dsimp only at hSw); go_simp; (try with_reducible rfl); done)); all_goals (try simp only [Act.put, List.setIfInBounds_toArray, List.set_cons_zero, List.set_cons_succ])); (refine tk 3 18 rfl rfl (v := ?_) ?_ ?_; rotate_left 1; (focus (intro w hSw; (try dsimp only at hSw); go_simp; (try with_reducible rfl); done)); all_goals (try simp only [Act.put, List.setIfInBounds_toArray, List.set_cons_zero, List.set_cons_succ]))); (refine sk 4 19 rfl rfl ?_; (try simp only [Act.put, List.setIfInBounds_toArray, List.set_cons_zero, List.set_cons_succ]); refine sk 5 20 rfl rfl ?_; (try simp only [Act.put, List.setIfInBounds_toArray, List.set_cons_zero, List.set_cons_succ]); refine sk 6 21 rfl rfl ?_; (try simp only [Act.put, List.setIfInBounds_toArray, List.set_cons_zero, List.set_cons_succ]); refine sk 7 22 rfl rfl ?_; (try simp only [Act.put, List.setIfInBounds_toArray, List.set_cons_zero, List.set_cons_succ]); refine sk 8 23 rfl rfl ?_; (try simp only [Act.put, List.setIfInBounds_toArray, List.set_cons_zero, List.set_cons_succ]); refine sk 9 24 rfl rfl ?_; (try simp only [Act.put, List.setIfInBounds_toArray, List.set_cons_zero, List.set_cons_succ]); refine sk 10 25 rfl rfl ?_; (try simp only [Act.put, List.setIfInBounds_toArray, List.set_cons_zero, List.set_cons_succ])); ((refine tk 11 26 rfl rfl (v := ?_) ?_ ?_; rotate_left 1; (focus (intro w hSw; (try dsimp only at hSw); go_simp; (try with_reducible rfl); done)); all_goals (try simp only [Act.put, List.setIfInBounds_toArray, List.set_cons_zero, List.set_cons_succ]))); refine wpAnyH_done (by kernel_rfl) ?_ _)
        obtain ⟨hcur, hc2⟩ : Grow V _ ∧ Same V _ := hHeld
        go_wp2
        go_ret
        exact ⟨ret_bool hf.out.symm, (hg.trans hG).trans (gV.trans hcur)⟩
      | true =>
      cases hd : (s.take k).any (tabP1 x.name) with
      | true =>
        have hf := bad (by rw [tabQ, hd, Bool.not_true, Bool.and_false])
        have HD := Lib.hid hd
        clear bad hd
        go_wp2_with fail
        generalize hV : World.alloc wr _ = V
        obtain ⟨gV, sV, kV⟩ := boxed1 hV
        clear hV
        have HR2 := Lib.hid (Kd.grow _ HRD.out gV)
        have hcV : Same W V := (hG.trans gV).same
        have sSV := Nat.lt_of_lt_of_le sS gV.size
        have HT := Lib.hid ((h.grow ((hg.trans hG).trans gV)).take (m := k) (by omega))
        refine wp_region_held_drew (S := (fun w' => Grow V w' ∧ Same V w')) (by kernel_rfl) (by exact Grow.both (by repeat (with_reducible first | exact Grow.refl _ | assumption | refine Grow.drew ?_ | refine Grow.alloc ?_ _ | refine Grow.set ?_ (by first | exact Nat.le_refl _ | (simp; done) | (simp; omega) | omega) _ | exact And.left (by assumption) | refine Grow.trans ?_ (by assumption)))) (fun hHeld => ?_)
        (((refine tk 0 15 rfl rfl (v := ?_) ?_ ?_; rotate_left 1; (focus (intro w hSw; (try dsimp only at hSw); go_simp; (try with_reducible rfl); done)); all_goals (try simp only [Act.put, List.setIfInBounds_toArray, List.set_cons_zero, List.set_cons_succ]))); (refine wpAnyH_ready (rs := [1]) (by kernel_rfl) (by simp) ?_; refine AllReadyH.cons rfl (fun K hK => ?_) AllReadyH.nil; go_simp; (first | (go_at_call 89; refine (iTableOk_any _ x _ (Kd.grow _ HR2.out (And.left (by assumption)))).mono ?_; rintro e w1 ⟨rfl, hb⟩) | (go_at_call 90; refine (iTableAt_yes HD.out _ (HT.out.grow (And.left (by assumption)))).mono ?_; rintro e w1 ⟨q, rfl, hb⟩)); refine hK.out _ _ (by exact Grow.both (by repeat (with_reducible first | exact Grow.refl _ | assumption | refine Grow.drew ?_ | refine Grow.alloc ?_ _ | refine Grow.set ?_ (by first | exact Nat.le_refl _ | (simp; done) | (simp; omega) | omega) _ | exact And.left (by assumption) | refine Grow.trans ?_ (by assumption)))) (fun hHeld => ?_); clear hK K; (try refine held_put 16 rfl ?_); (try simp only [Act.put, List.setIfInBounds_toArray, List.set_cons_zero, List.set_cons_succ])); ((refine tk 2 17 rfl rfl (v := ?_) ?_ ?_; rotate_left 1; (focus (intro w hSw; (try dsimp only at hSw); go_simp; (try with_reducible rfl); done)); all_goals (try simp only [Act.put, List.setIfInBounds_toArray, List.set_cons_zero, List.set_cons_succ])); (refine tk 3 18 rfl rfl (v := ?_) ?_ ?_; rotate_left 1; (focus (intro w hSw; (try dsimp only at hSw); go_simp; (try with_reducible rfl); done)); all_goals (try simp only [Act.put, List.setIfInBounds_toArray, List.set_cons_zero, List.set_cons_succ])); (refine tk 4 19 rfl rfl (v := ?_) ?_ ?_; rotate_left 1; (focus (intro w hSw; (try dsimp only at hSw); go_simp; (try with_reducible rfl); done)); all_goals (try simp only [Act.put, List.setIfInBounds_toArray, List.set_cons_zero, List.set_cons_succ])); (refine tk 5 20 rfl rfl (v := ?_) ?_ ?_; rotate_left 1; (focus (intro w hSw; (try dsimp only at hSw); go_simp; (try with_reducible rfl); done)); all_goals (try simp only [Act.put, List.setIfInBounds_toArray, List.set_cons_zero, List.set_cons_succ])); (refine tk 6 21 rfl rfl (v := ?_) ?_ ?_; rotate_left 1; (focus (intro w hSw; (try dsimp only at hSw); go_simp; (try with_reducible rfl); done)); all_goals (try simp only [Act.put, List.setIfInBounds_toArray, List.set_cons_zero, List.set_cons_succ])); (refine tk 7 22 rfl rfl (v := ?_) ?_ ?_; rotate_left 1; (focus (intro w hSw; (try dsimp only at hSw); go_simp; (try with_reducible rfl); done)); all_goals (try simp only [Act.put, List.setIfInBounds_toArray, List.set_cons_zero, List.set_cons_succ])); (refine tk 8 23 rfl rfl (v := ?_) ?_ ?_; rotate_left 1; (focus (intro w hSw; (try dsimp only at hSw); go_simp; (try with_reducible rfl); done)); all_goals (try simp only [Act.put, List.setIfInBounds_toArray, List.set_cons_zero, List.set_cons_succ]))); (refine wpAnyH_ready (rs := [9]) (by kernel_rfl) (by simp) ?_; refine AllReadyH.cons rfl (fun K hK => ?_) AllReadyH.nil; go_simp; (first | (go_at_call 89; refine (iTableOk_any _ x _ (Kd.grow _ HR2.out (And.left (by assumption)))).mono ?_; rintro e w1 ⟨rfl, hb⟩) | (go_at_call 90; refine (iTableAt_yes HD.out _ (HT.out.grow (And.left (by assumption)))).mono ?_; rintro e w1 ⟨q, rfl, hb⟩)); refine hK.out _ _ (by exact Grow.both (by repeat (with_reducible first | exact Grow.refl _ | assumption | refine Grow.drew ?_ | refine Grow.alloc ?_ _ | refine Grow.set ?_ (by first | exact Nat.le_refl _ | (simp; done) | (simp; omega) | omega) _ | exact And.left (by assumption) | refine Grow.trans ?_ (by assumption)))) (fun hHeld => ?_); clear hK K; (try refine held_put 24 rfl ?_); (try simp only [Act.put, List.setIfInBounds_toArray, List.set_cons_zero, List.set_cons_succ])); ((refine tk 10 25 rfl rfl (v := ?_) ?_ ?_; rotate_left 1; (focus (intro w hSw; (try dsimp only at hSw); go_simp; (try with_reducible rfl); done)); all_goals (try simp only [Act.put, List.setIfInBounds_toArray, List.set_cons_zero, List.set_cons_succ])); (refine tk 11 26 rfl rfl (v := ?_) ?_ ?_; rotate_left 1; (focus (intro w hSw; (try dsimp only at hSw); go_simp; (try with_reducible rfl); done)); all_goals (try simp only [Act.put, List.setIfInBounds_toArray, List.set_cons_zero, List.set_cons_succ]))); refine wpAnyH_done (by kernel_rfl) ?_ _)
        obtain ⟨hcur, hc2⟩ : Grow V _ ∧ Same V _ := hHeld
        go_wp2
        go_ret
        exact ⟨ret_bool hf.out.symm, (hg.trans hG).trans (gV.trans hcur)⟩
      | false =>
        have hp := Lib.hid (show tabQ s k x = true by rw [tabQ, hn, hd]; rfl)
        have HD := Lib.hid hd
        clear bad hd
        go_wp2_with fail
        generalize hV : World.alloc wr _ = V
        obtain ⟨gV, sV, kV⟩ := boxed1 hV
        clear hV
        have HR2 := Lib.hid (Kd.grow _ HRD.out gV)
        have hcV : Same W V := (hG.trans gV).same
        have sSV := Nat.lt_of_lt_of_le sS gV.size
        have HT := Lib.hid ((h.grow ((hg.trans hG).trans gV)).take (m := k) (by omega))
        refine wp_region_held_drew (S := (fun w' => Grow V w' ∧ Same V w')) (by kernel_rfl) (by exact Grow.both (by repeat (with_reducible first | exact Grow.refl _ | assumption | refine Grow.drew ?_ | refine Grow.alloc ?_ _ | refine Grow.set ?_ (by first | exact Nat.le_refl _ | (simp; done) | (simp; omega) | omega) _ | exact And.left (by assumption) | refine Grow.trans ?_ (by assumption)))) (fun hHeld => ?_)
        (((refine tk 0 15 rfl rfl (v := ?_) ?_ ?_; rotate_left 1; (focus (intro w hSw; (try dsimp only at hSw); go_simp; (try with_reducible rfl); done)); all_goals (try simp only [Act.put, List.setIfInBounds_toArray, List.set_cons_zero, List.set_cons_succ]))); (refine wpAnyH_ready (rs := [1]) (by kernel_rfl) (by simp) ?_; refine AllReadyH.cons rfl (fun K hK => ?_) AllReadyH.nil; go_simp; (first | (go_at_call 89; refine (iTableOk_any _ x _ (Kd.grow _ HR2.out (And.left (by assumption)))).mono ?_; rintro e w1 ⟨rfl, hb⟩) | (go_at_call 90; refine (iTableAt_eq (any_idx HD.out) _ (HT.out.grow (And.left (by assumption)))).mono ?_; rintro e w1 ⟨rfl, hb⟩)); refine hK.out _ _ (by exact Grow.both (by repeat (with_reducible first | exact Grow.refl _ | assumption | refine Grow.drew ?_ | refine Grow.alloc ?_ _ | refine Grow.set ?_ (by first | exact Nat.le_refl _ | (simp; done) | (simp; omega) | omega) _ | exact And.left (by assumption) | refine Grow.trans ?_ (by assumption)))) (fun hHeld => ?_); clear hK K; (try refine held_put 16 rfl ?_); (try simp only [Act.put, List.setIfInBounds_toArray, List.set_cons_zero, List.set_cons_succ])); ((refine tk 2 17 rfl rfl (v := ?_) ?_ ?_; rotate_left 1; (focus (intro w hSw; (try dsimp only at hSw); go_simp; (try with_reducible rfl); done)); all_goals (try simp only [Act.put, List.setIfInBounds_toArray, List.set_cons_zero, List.set_cons_succ])); (refine tk 3 18 rfl rfl (v := ?_) ?_ ?_; rotate_left 1; (focus (intro w hSw; (try dsimp only at hSw); go_simp; (try with_reducible rfl); done)); all_goals (try simp only [Act.put, List.setIfInBounds_toArray, List.set_cons_zero, List.set_cons_succ])); (refine tk 4 19 rfl rfl (v := ?_) ?_ ?_; rotate_left 1; (focus (intro w hSw; (try dsimp only at hSw); go_simp; (try with_reducible rfl); done)); all_goals (try simp only [Act.put, List.setIfInBounds_toArray, List.set_cons_zero, List.set_cons_succ])); (refine tk 5 20 rfl rfl (v := ?_) ?_ ?_; rotate_left 1; (focus (intro w hSw; (try dsimp only at hSw); go_simp; (try with_reducible rfl); done)); all_goals (try simp only [Act.put, List.setIfInBounds_toArray, List.set_cons_zero, List.set_cons_succ])); (refine tk 6 21 rfl rfl (v := ?_) ?_ ?_; rotate_left 1; (focus (intro w hSw; (try dsimp only at hSw); go_simp; (try with_reducible rfl); done)); all_goals (try simp only [Act.put, List.setIfInBounds_toArray, List.set_cons_zero, List.set_cons_succ])); (refine tk 7 22 rfl rfl (v := ?_) ?_ ?_; rotate_left 1; (focus (intro w hSw; (try dsimp only at hSw); go_simp; (try with_reducible rfl); done)); all_goals (try simp only [Act.put, List.setIfInBounds_toArray, List.set_cons_zero, List.set_cons_succ])); (refine tk 8 23 rfl rfl (v := ?_) ?_ ?_; rotate_left 1; (focus (intro w hSw; (try dsimp only at hSw); go_simp; (try with_reducible rfl); done)); all_goals (try simp only [Act.put, List.setIfInBounds_toArray, List.set_cons_zero, List.set_cons_succ]))); (refine wpAnyH_ready (rs := [9]) (by kernel_rfl) (by simp) ?_; refine AllReadyH.cons rfl (fun K hK => ?_) AllReadyH.nil; go_simp; (first | (go_at_call 89; refine (iTableOk_any _ x _ (Kd.grow _ HR2.out (And.left (by assumption)))).mono ?_; rintro e w1 ⟨rfl, hb⟩) | (go_at_call 90; refine (iTableAt_eq (any_idx HD.out) _ (HT.out.grow (And.left (by assumption)))).mono ?_; rintro e w1 ⟨rfl, hb⟩)); refine hK.out _ _ (by exact Grow.both (by repeat (with_reducible first | exact Grow.refl _ | assumption | refine Grow.drew ?_ | refine Grow.alloc ?_ _ | refine Grow.set ?_ (by first | exact Nat.le_refl _ | (simp; done) | (simp; omega) | omega) _ | exact And.left (by assumption) | refine Grow.trans ?_ (by assumption)))) (fun hHeld => ?_); clear hK K; (try refine held_put 24 rfl ?_); (try simp only [Act.put, List.setIfInBounds_toArray, List.set_cons_zero, List.set_cons_succ])); ((refine tk 10 25 rfl rfl (v := ?_) ?_ ?_; rotate_left 1; (focus (intro w hSw; (try dsimp only at hSw); go_simp; (try with_reducible rfl); done)); all_goals (try simp only [Act.put, List.setIfInBounds_toArray, List.set_cons_zero, List.set_cons_succ])); (refine tk 11 26 rfl rfl (v := ?_) ?_ ?_; rotate_left 1; (focus (intro w hSw; (try dsimp only at hSw); go_simp; (try with_reducible rfl); done)); all_goals (try simp only [Act.put, List.setIfInBounds_toArray, List.set_cons_zero, List.set_cons_succ]))); refine wpAnyH_done (by kernel_rfl) ?_ _)
        obtain ⟨hcur, hc2⟩ : Grow V _ ∧ Same V _ := hHeld
        go_wp2
        go_roundw
        case rel => exact ⟨k + 1, by omega, by go_num, hG.trans (gV.trans hcur), hall.succ hx.out hp.out⟩
        case measure => simp [intOf]; omega
    · have hq := hall.done (by rw [HL.out]; omega)
      have hok : ∀ u ∈ s, tableOkB u = true := fun u hu => by
        obtain ⟨j, hj, rfl⟩ := List.getElem_of_mem hu
        have := allIx_at hq (List.getElem?_eq_getElem hj)
        simp only [tabQ, Bool.and_eq_true] at this
        exact this.1
      have hf := Lib.hid (show schemaOkB s = !(s.any (tabBad s)) by rw [schemaOkB, hq, HL.out, decide_eq_true h5]; rfl)
      have HOK := Lib.hid hok
      clear hall hq hok
      go_wp2_with (first | (go_at_call 91; refine (containsFunc_table _ enters_SchemaOk1 _ _ (tabBad s) _ (h.grow (hg.trans hG)) (fun cs u w' hx hw hrd => by simpa using schemaOk1_any cs u _ w' (h.grow ((hg.trans hG).trans hw)) hrd HOK.out hx (Nat.lt_of_lt_of_le sS hw.size) (((hw.same _ _ sS).trans (hc _ _ hs')).trans (k1 0))) (r := s.any (tabBad s)) rfl).mono ?_; rintro e w1 ⟨rfl, hb⟩))
      go_ret
      exact ⟨ret_bool hf.out.symm, (hg.trans hG).trans hb⟩
end Go.Proofs.YtjeilgogjoidjaaGreat
