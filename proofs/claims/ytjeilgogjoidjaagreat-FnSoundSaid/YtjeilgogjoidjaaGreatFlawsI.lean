import Derived.Test.YtjeilgogjoidjaaGreatRivals
/-! The program's flaws. -/
namespace Go.Proofs.YtjeilgogjoidjaaGreat
open Go.RowKit
set_option linter.unusedVariables false
set_option linter.unusedSimpArgs false
/-- What a right schema says of a reference of one of its tables. -/
theorem schemaOk_fk {s : List Table} (h : schemaOkB s = true) {i : Nat} {t : Table} (ht : s[i]? = some t) {f : Fk} (hf : f ∈ t.fks) :
    fkB t.cols.length f = true ∧ ∃ (q : Nat) (u : Table), s[q]? = some u ∧ tableAtV s f.table = (q : Int) ∧ u.key.length = f.cols.length := by
  have hT := schemaOk_at h ht
  refine ⟨(tableOkB_parts hT).2.2.2 f hf, ?_⟩
  simp only [schemaOkB, Bool.and_eq_true, Bool.not_eq_true'] at h
  have h1 := List.any_eq_false.mp h.2 t (List.mem_of_getElem? ht)
  have h2 : tabBad s t = false := by simpa using h1
  have h3 := List.any_eq_false.mp h2 f hf
  have h4 : metB s t f = true := by simpa [notMet] using h3
  unfold metB at h4
  rcases idx_cases (tabP1 f.table) s with ⟨h5, h6⟩ | ⟨q, u, h5, h6, h7⟩
  · rw [h6] at h4; cases h4
  · rw [h7] at h4
    simp only [h5] at h4
    simp only [metU, Bool.and_eq_true, decide_eq_true_eq] at h4
    exact ⟨q, u, h5, h6, h4.1⟩
/-- What the references of a table need. -/
def FkIn (s : List Table) (db : List Data) (n : Nat) (f : Fk) : Prop :=
  InCols f.cols n ∧ f.cols.length ≤ 8 ∧ ∃ (q : Nat) (u : Table) (d : Data), s[q]? = some u ∧ db[q]? = some d ∧ tableAtV s f.table = (q : Int) ∧ u.key.length ≤ 8 ∧ d.rows.length ≤ 60 ∧ ∀ r ∈ d.rows, InCols u.key r.vals.length
theorem fkIn_of {s : List Table} {db : List Data} (h : dbOkB s db = true) {i : Nat} {t : Table} (ht : s[i]? = some t) {f : Fk} (hf : f ∈ t.fks) : FkIn s db t.cols.length f := by
  have hS : schemaOkB s = true := by simp only [dbOkB, Bool.and_eq_true] at h; exact h.1
  have hD : dbB s db = true := by simp only [dbOkB, Bool.and_eq_true] at h; exact h.2
  obtain ⟨h1, q, u, hu, hq, hl⟩ := schemaOk_fk hS ht hf
  have h8 := (tableOk_cols (schemaOk_at hS ht)).2
  have hc : colsB f.cols t.cols.length = true := by simp only [fkB, Bool.and_eq_true] at h1; exact h1.1.1.1
  have hlen := Nat.le_trans (colsB_len hc) h8
  have hql : q < db.length := by rw [db_len hD]; exact (List.getElem?_eq_some_iff.mp hu).1
  refine ⟨fun c hcm => colsB_mem hc hcm, hlen, q, u, db[q], hu, List.getElem?_eq_getElem hql, hq, by omega, ?_, fun r hr => ?_⟩
  · obtain ⟨t', ht', h2, h3, h4⟩ := db_table h (List.getElem?_eq_getElem hql)
    exact h3
  · obtain ⟨t', ht', h2, h3, h4⟩ := db_table h (List.getElem?_eq_getElem hql)
    obtain rfl : t' = u := Option.some.inj (ht'.symm.trans hu)
    rw [fit_len (h4 r hr)]
    exact fun c hcm => colsB_mem (tableOkB_parts h2).1 hcm
theorem found_eq {A B C : Option Addr} {la ca lb cb lc cc : Nat} {rows : List Row} {cols : List Int} {key : List Val} {b : Bool} (hb : (foundV rows cols key).isEmpty = b) (w : World) (hr : IsSl Kd.row w (· < w.heap.size) A la ca rows) (h : IsSl Kd.int w (· < w.heap.size) B lb cb cols) (hk : IsSl Kd.val w (· < w.heap.size) C lc cc key)
    (hl : lb ≤ 1048576) (hla : la ≤ 1048576) (hin : ∀ r ∈ rows, InCols cols r.vals.length) : Calls Tryz.prog 60 #[.slice A la ca, .slice B lb cb, .slice C lc cc] w (fun e w' => ∃ (P : Option Addr) (l c : Nat), e = .returned (.slice P l c) ∧ ((l : Int) == 0) = b ∧ Grow w w') :=
  (found_any w hr h hk hl hla hin).mono fun e w' ⟨P, l, c, he, hs, hg⟩ => ⟨P, l, c, he, by
    subst hb
    rw [← hs.1]
    cases foundV rows cols key with
    | nil => rfl
    | cons a l => simp; omega, hg⟩
set_option maxHeartbeats 2000000 in
theorem isLost_any (cs : List Value) (f : Fk) {A B C : Option Addr} {la ca lb cb lc cc : Nat} {s : List Table} {db : List Data} {vals : List Val} (w : World) (hs : IsSl Kd.table w (· < w.heap.size) A la ca s) (hd : IsSl Kd.data w (· < w.heap.size) B lb cb db)
    (h : Kd.fk.rd w (· < w.heap.size) cs f) (hv : IsSl Kd.val w (· < w.heap.size) C lc cc vals) (hin : FkIn s db lc f) : Calls Tryz.prog 134 #[.slice A la ca, .slice B lb cb, .agg cs.toArray, .slice C lc cc] w (Ret w (.bool (lostB s db vals f))) := by
  obtain ⟨Af, Lf, Cf, rfl, zt, sf⟩ := h
  obtain ⟨i1, i2, q, u, d, hu, hdq, hat, hk8, hr60, hrin⟩ := hin
  have hqa : q < la := by rw [← hs.1]; exact (List.getElem?_eq_some_iff.mp hu).1
  have hqb : q < lb := by rw [← hd.1]; exact (List.getElem?_eq_some_iff.mp hdq).1
  rw [sf.1] at i2
  have HI := Lib.hid i1
  have HAT := Lib.hid (show idxOf (tabP1 f.table) s = (q : Int) from hat)
  have HRI := Lib.hid hrin
  have q0 : (0 : Int) ≤ (q : Int) := Int.natCast_nonneg q
  have q1 : (q : Int) < (la : Int) := Int.ofNat_lt.mpr hqa
  have q2 : (q : Int) < (lb : Int) := Int.ofNat_lt.mpr hqb
  have hlost : lostB s db vals f = (knownV f.cols vals && (foundV d.rows u.key (keyV f.cols vals)).isEmpty) := by rw [lostB, hat, datAt_at hdq, tabAt_at hu]
  clear i1 hrin
  cases hkn : knownV f.cols vals with
  | false =>
    have hf := Lib.hid (show lostB s db vals f = false by rw [hlost, hkn]; rfl)
    have HK := Lib.hid hkn
    clear hkn hlost hat
    go_enter Tryz.func134, Tryz.ntmps134
    go_wp2_with fail
    generalize hW : World.alloc w _ = W
    obtain ⟨hg, hs', k1⟩ := boxed1 hW
    clear hW
    have hcur := Grow.refl W
    have hc := hcur.same
    refine (iTableAt_eq HAT.out _ (hs.grow hg)).mono ?_
    rintro e w1 ⟨rfl, g1⟩
    have hc1 := g1.same
    go_wp2_with fail
    refine (ikeyOf_eq HK.out _ (sf.grow (hg.trans g1)) (hv.grow (hg.trans g1)) (by omega) HI.out).mono ?_
    rintro e w2 ⟨A2, l2, c2, rfl, k2, g2⟩
    go_wp2_with fail
    refine wp_region_held_drew (S := (fun w' => Grow w2 w' ∧ Same w2 w')) (by kernel_rfl) (by exact Grow.both (by repeat (with_reducible first | exact Grow.refl _ | assumption | refine Grow.drew ?_ | refine Grow.alloc ?_ _ | refine Grow.set ?_ (by first | exact Nat.le_refl _ | (simp; done) | (simp; omega) | omega) _ | exact And.left (by assumption) | refine Grow.trans ?_ (by assumption)))) (fun hHeld => ?_)
    ((refine tk 0 23 rfl rfl (v := ?_) ?_ ?_; rotate_left 1; (focus (intro w hSw; (try dsimp only at hSw); go_simp; (try with_reducible rfl); done)); all_goals (try simp only [Act.put, List.setIfInBounds_toArray, List.set_cons_zero, List.set_cons_succ])); (refine tk 1 24 rfl rfl (v := ?_) ?_ ?_; rotate_left 1; (focus (intro w hSw; (try dsimp only at hSw); go_simp; (try with_reducible rfl); done)); all_goals (try simp only [Act.put, List.setIfInBounds_toArray, List.set_cons_zero, List.set_cons_succ])))
    (refine sk 2 25 rfl rfl ?_; (try simp only [Act.put, List.setIfInBounds_toArray, List.set_cons_zero, List.set_cons_succ]); refine sk 3 26 rfl rfl ?_; (try simp only [Act.put, List.setIfInBounds_toArray, List.set_cons_zero, List.set_cons_succ]); refine sk 4 27 rfl rfl ?_; (try simp only [Act.put, List.setIfInBounds_toArray, List.set_cons_zero, List.set_cons_succ]); refine sk 5 28 rfl rfl ?_; (try simp only [Act.put, List.setIfInBounds_toArray, List.set_cons_zero, List.set_cons_succ]); refine sk 6 29 rfl rfl ?_; (try simp only [Act.put, List.setIfInBounds_toArray, List.set_cons_zero, List.set_cons_succ]); refine sk 7 30 rfl rfl ?_; (try simp only [Act.put, List.setIfInBounds_toArray, List.set_cons_zero, List.set_cons_succ]); refine sk 8 31 rfl rfl ?_; (try simp only [Act.put, List.setIfInBounds_toArray, List.set_cons_zero, List.set_cons_succ]); refine sk 9 32 rfl rfl ?_; (try simp only [Act.put, List.setIfInBounds_toArray, List.set_cons_zero, List.set_cons_succ]); refine sk 10 33 rfl rfl ?_; (try simp only [Act.put, List.setIfInBounds_toArray, List.set_cons_zero, List.set_cons_succ]); refine sk 11 34 rfl rfl ?_; (try simp only [Act.put, List.setIfInBounds_toArray, List.set_cons_zero, List.set_cons_succ]); refine sk 12 35 rfl rfl ?_; (try simp only [Act.put, List.setIfInBounds_toArray, List.set_cons_zero, List.set_cons_succ]); refine sk 13 36 rfl rfl ?_; (try simp only [Act.put, List.setIfInBounds_toArray, List.set_cons_zero, List.set_cons_succ]); refine sk 14 37 rfl rfl ?_; (try simp only [Act.put, List.setIfInBounds_toArray, List.set_cons_zero, List.set_cons_succ]); refine sk 15 38 rfl rfl ?_; (try simp only [Act.put, List.setIfInBounds_toArray, List.set_cons_zero, List.set_cons_succ]))
    ((refine tk 16 39 rfl rfl (v := ?_) ?_ ?_; rotate_left 1; (focus (intro w hSw; (try dsimp only at hSw); go_simp; (try with_reducible rfl); done)); all_goals (try simp only [Act.put, List.setIfInBounds_toArray, List.set_cons_zero, List.set_cons_succ])))
    ((refine tk 17 8 rfl rfl (v := ?_) ?_ ?_; rotate_left 1; (focus (intro w hSw; (try dsimp only at hSw); go_simp; (try with_reducible rfl); done)); all_goals (try simp only [Act.put, List.setIfInBounds_toArray, List.set_cons_zero, List.set_cons_succ])))
    refine wpAnyH_done (by kernel_rfl) ?_ _
    go_wp2
    go_ret
    exact ⟨ret_bool hf.out.symm, hg.trans (g1.trans g2.drew)⟩
  | true =>
    have HK := Lib.hid hkn
    obtain ⟨b, hb⟩ : ∃ b, (foundV d.rows u.key (keyV f.cols vals)).isEmpty = b := ⟨_, rfl⟩
    have hf := Lib.hid (show lostB s db vals f = b by rw [hlost, hkn, hb]; rfl)
    have HB := Lib.hid hb
    clear hkn hlost hat hb
    go_enter Tryz.func134, Tryz.ntmps134
    go_wp2_with fail
    generalize hW : World.alloc w _ = W
    obtain ⟨hg, hs', k1⟩ := boxed1 hW
    clear hW
    have hcur := Grow.refl W
    have hc := hcur.same
    refine (iTableAt_eq HAT.out _ (hs.grow hg)).mono ?_
    rintro e w1 ⟨rfl, g1⟩
    have hc1 := g1.same
    go_wp2_with fail
    refine (ikeyOf_eq HK.out _ (sf.grow (hg.trans g1)) (hv.grow (hg.trans g1)) (by omega) HI.out).mono ?_
    rintro e w2 ⟨A2, l2, c2, rfl, k2, g2⟩
    have g02 := hg.trans (g1.trans g2)
    obtain ⟨b1, off1, y, Acols, Lcols, Ccols, Akey, Lkey, Ckey, Auniques, Luniques, Cuniques, Achecks, Lchecks, Cchecks, Afks, Lfks, Cfks, rfl, hy, _, hb1, zname, c0, c1, c2', c3, c4, c5, -, skey, -, -, -, -⟩ := table_at (hs.grow g02) hqa
    obtain rfl : y = u := Option.some.inj (hy.out.symm.trans hu)
    obtain ⟨b3, off3, z, Ar, Lr, Cr, rfl, hz, _, hb3, e0, sr, -⟩ := data_at (hd.grow g02) hqb
    obtain rfl : z = d := Option.some.inj (hz.out.symm.trans hdq)
    rw [skey.1] at hk8
    rw [sr.1] at hr60
    have SK := Lib.hid skey
    have SR := Lib.hid sr
    have SV := Lib.hid k2.fresh
    go_wp2_with fail
    refine wp_region_held_drew (S := (fun w' => Grow w2 w' ∧ Same w2 w')) (by kernel_rfl) (by exact Grow.both (by repeat (with_reducible first | exact Grow.refl _ | assumption | refine Grow.drew ?_ | refine Grow.alloc ?_ _ | refine Grow.set ?_ (by first | exact Nat.le_refl _ | (simp; done) | (simp; omega) | omega) _ | exact And.left (by assumption) | refine Grow.trans ?_ (by assumption)))) (fun hHeld => ?_)
    ((refine tk 0 23 rfl rfl (v := ?_) ?_ ?_; rotate_left 1; (focus (intro w hSw; (try dsimp only at hSw); go_simp; (try with_reducible rfl); done)); all_goals (try simp only [Act.put, List.setIfInBounds_toArray, List.set_cons_zero, List.set_cons_succ])); (refine tk 1 24 rfl rfl (v := ?_) ?_ ?_; rotate_left 1; (focus (intro w hSw; (try dsimp only at hSw); go_simp; (try with_reducible rfl); done)); all_goals (try simp only [Act.put, List.setIfInBounds_toArray, List.set_cons_zero, List.set_cons_succ])); (refine tk 2 25 rfl rfl (v := ?_) ?_ ?_; rotate_left 1; (focus (intro w hSw; (try dsimp only at hSw); go_simp; (try with_reducible rfl); done)); all_goals (try simp only [Act.put, List.setIfInBounds_toArray, List.set_cons_zero, List.set_cons_succ])); (refine tk 3 26 rfl rfl (v := ?_) ?_ ?_; rotate_left 1; (focus (intro w hSw; (try dsimp only at hSw); go_simp; (try with_reducible rfl); done)); all_goals (try simp only [Act.put, List.setIfInBounds_toArray, List.set_cons_zero, List.set_cons_succ])); (refine tk 4 27 rfl rfl (v := ?_) ?_ ?_; rotate_left 1; (focus (intro w hSw; (try dsimp only at hSw); go_simp; (try with_reducible rfl); done)); all_goals (try simp only [Act.put, List.setIfInBounds_toArray, List.set_cons_zero, List.set_cons_succ])); (refine tk 5 28 rfl rfl (v := ?_) ?_ ?_; rotate_left 1; (focus (intro w hSw; (try dsimp only at hSw); go_simp; (try with_reducible rfl); done)); all_goals (try simp only [Act.put, List.setIfInBounds_toArray, List.set_cons_zero, List.set_cons_succ])); (refine tk 6 29 rfl rfl (v := ?_) ?_ ?_; rotate_left 1; (focus (intro w hSw; (try dsimp only at hSw); go_simp; (try with_reducible rfl); done)); all_goals (try simp only [Act.put, List.setIfInBounds_toArray, List.set_cons_zero, List.set_cons_succ])); (refine tk 7 30 rfl rfl (v := ?_) ?_ ?_; rotate_left 1; (focus (intro w hSw; (try dsimp only at hSw); go_simp; (try with_reducible rfl); done)); all_goals (try simp only [Act.put, List.setIfInBounds_toArray, List.set_cons_zero, List.set_cons_succ])); (refine tk 8 31 rfl rfl (v := ?_) ?_ ?_; rotate_left 1; (focus (intro w hSw; (try dsimp only at hSw); go_simp; (try with_reducible rfl); done)); all_goals (try simp only [Act.put, List.setIfInBounds_toArray, List.set_cons_zero, List.set_cons_succ])); (refine tk 9 32 rfl rfl (v := ?_) ?_ ?_; rotate_left 1; (focus (intro w hSw; (try dsimp only at hSw); go_simp; (try with_reducible rfl); done)); all_goals (try simp only [Act.put, List.setIfInBounds_toArray, List.set_cons_zero, List.set_cons_succ])); (refine tk 10 33 rfl rfl (v := ?_) ?_ ?_; rotate_left 1; (focus (intro w hSw; (try dsimp only at hSw); go_simp; (try with_reducible rfl); done)); all_goals (try simp only [Act.put, List.setIfInBounds_toArray, List.set_cons_zero, List.set_cons_succ])); (refine tk 11 34 rfl rfl (v := ?_) ?_ ?_; rotate_left 1; (focus (intro w hSw; (try dsimp only at hSw); go_simp; (try with_reducible rfl); done)); all_goals (try simp only [Act.put, List.setIfInBounds_toArray, List.set_cons_zero, List.set_cons_succ])); (refine tk 12 35 rfl rfl (v := ?_) ?_ ?_; rotate_left 1; (focus (intro w hSw; (try dsimp only at hSw); go_simp; (try with_reducible rfl); done)); all_goals (try simp only [Act.put, List.setIfInBounds_toArray, List.set_cons_zero, List.set_cons_succ])))
    (refine wpAnyH_ready (rs := [13]) (by kernel_rfl) (by simp) ?_; refine AllReadyH.cons rfl (fun K hK => ?_) AllReadyH.nil; go_simp; (go_at_call 60; refine (found_eq HB.out _ (SR.out.grow (And.left (by assumption))) (SK.out.grow (And.left (by assumption))) (SV.out.grow (And.left (by assumption))) (by omega) (by omega) HRI.out).mono ?_; rintro e w5 ⟨P5, l5, c5, rfl, hl5, hb5⟩); refine hK.out _ _ (by exact Grow.both (by repeat (with_reducible first | exact Grow.refl _ | assumption | refine Grow.drew ?_ | refine Grow.alloc ?_ _ | refine Grow.set ?_ (by first | exact Nat.le_refl _ | (simp; done) | (simp; omega) | omega) _ | exact And.left (by assumption) | refine Grow.trans ?_ (by assumption)))) (fun hHeld => ?_); clear hK K; (try refine held_put 36 rfl ?_); (try simp only [Act.put, List.setIfInBounds_toArray, List.set_cons_zero, List.set_cons_succ]))
    obtain ⟨gX, _⟩ : Grow w2 w5 ∧ Same w2 w5 := by assumption
    ((refine tk 14 37 rfl rfl (v := ?_) ?_ ?_; rotate_left 1; (focus (intro w hSw; (try dsimp only at hSw); go_simp; (try with_reducible rfl); done)); all_goals (try simp only [Act.put, List.setIfInBounds_toArray, List.set_cons_zero, List.set_cons_succ])); (refine tk 15 38 rfl rfl (v := ?_) ?_ ?_; rotate_left 1; (focus (intro w hSw; (try dsimp only at hSw); go_simp; (try with_reducible rfl); done)); all_goals (try simp only [Act.put, List.setIfInBounds_toArray, List.set_cons_zero, List.set_cons_succ])); (refine tk 16 39 rfl rfl (v := ?_) ?_ ?_; rotate_left 1; (focus (intro w hSw; (try dsimp only at hSw); go_simp; (try with_reducible rfl); done)); all_goals (try simp only [Act.put, List.setIfInBounds_toArray, List.set_cons_zero, List.set_cons_succ])))
    ((refine tk 17 8 rfl rfl (v := ?_) ?_ ?_; rotate_left 1; (focus (intro w hSw; (try dsimp only at hSw); go_simp; (try with_reducible rfl); done)); all_goals (try simp only [Act.put, List.setIfInBounds_toArray, List.set_cons_zero, List.set_cons_succ])))
    refine wpAnyH_done (by kernel_rfl) ?_ _
    go_wp2
    go_ret
    exact ⟨ret_bool hf.out.symm, g02.trans gX⟩
theorem isLost_eq {cs : List Value} {f : Fk} {A B C : Option Addr} {la ca lb cb lc cc : Nat} {s : List Table} {db : List Data} {vals : List Val} {r : Bool} (hr : lostB s db vals f = r) (w : World) (hs : IsSl Kd.table w (· < w.heap.size) A la ca s) (hd : IsSl Kd.data w (· < w.heap.size) B lb cb db)
    (h : Kd.fk.rd w (· < w.heap.size) cs f) (hv : IsSl Kd.val w (· < w.heap.size) C lc cc vals) (hin : FkIn s db lc f) : Calls Tryz.prog 134 #[.slice A la ca, .slice B lb cb, .agg cs.toArray, .slice C lc cc] w (Ret w (.bool r)) := by
  subst hr; exact isLost_any cs f w hs hd h hv hin
theorem enters_isLostRow1 : Enters Tryz.prog 133 := ⟨fun a w => by go_simp⟩
theorem isLostRow1_any (cs : List Value) (f : Fk) (b1 b2 b3 b4 : Nat) (deferred : Bool) {A B C : Option Addr} {la ca lb cb lc cc : Nat} {s : List Table} {db : List Data} {vals : List Val} (w : World) (hs : IsSl Kd.table w (· < w.heap.size) A la ca s) (hd : IsSl Kd.data w (· < w.heap.size) B lb cb db)
    (h : Kd.fk.rd w (· < w.heap.size) cs f) (hv : IsSl Kd.val w (· < w.heap.size) C lc cc vals) (hin : FkIn s db lc f) (h1 : b1 < w.heap.size) (h2 : b2 < w.heap.size) (h3 : b3 < w.heap.size) (h4 : b4 < w.heap.size)
    (c1 : w.cell? ⟨b1, 0, none⟩ = some (.bool deferred)) (c2 : w.cell? ⟨b2, 0, none⟩ = some (.slice A la ca)) (c3 : w.cell? ⟨b3, 0, none⟩ = some (.slice B lb cb)) (c4 : w.cell? ⟨b4, 0, none⟩ = some (.slice C lc cc)) :
    Calls Tryz.prog 133 #[.agg cs.toArray, .pointer (some ⟨b1, 0, none⟩), .pointer (some ⟨b2, 0, none⟩), .pointer (some ⟨b3, 0, none⟩), .pointer (some ⟨b4, 0, none⟩)] w (Ret w (.bool (lostP s db deferred vals f))) := by
  have HF := Lib.hid h
  have HIN := Lib.hid hin
  obtain ⟨Af, Lf, Cf, rfl, zt, sf⟩ := h
  cases hq : (deferred || !f.deferred) with
  | false =>
    have hf := Lib.hid (show lostP s db deferred vals f = false by rw [lostP, hq]; rfl)
    obtain ⟨rfl, hd2⟩ : deferred = false ∧ f.deferred = true := by
      cases deferred <;> cases hfd : f.deferred <;> simp_all
    rw [hd2] at *
    clear hq
    go_enter Tryz.func133, Tryz.ntmps133
    go_wp2
    go_ret
    exact ⟨ret_bool hf.out.symm, (by repeat (with_reducible first | exact Grow.refl _ | assumption | refine Grow.drew ?_ | refine Grow.alloc ?_ _ | refine Grow.set ?_ (by first | exact Nat.le_refl _ | (simp; done) | (simp; omega) | omega) _ | exact And.left (by assumption) | refine Grow.trans ?_ (by assumption)))⟩
  | true =>
    have hf := Lib.hid (show lostP s db deferred vals f = lostB s db vals f by rw [lostP, hq]; rfl)
    cases deferred with
    | true =>
      clear hq
      go_enter Tryz.func133, Tryz.ntmps133
      go_wp2_with fail
      refine (isLost_any _ f _ (hs.grow ((Grow.refl _).alloc _)) (hd.grow ((Grow.refl _).alloc _)) (Kd.fk.grow HF.out ((Grow.refl _).alloc _)) (hv.grow ((Grow.refl _).alloc _)) HIN.out).mono ?_
      rintro e w2 ⟨rfl, g2⟩
      go_wp2
      go_ret
      exact ⟨ret_bool hf.out.symm, ((Grow.refl _).alloc _).trans g2⟩
    | false =>
      have hfd : f.deferred = false := by simpa using hq
      have HF2 := Lib.hid (show Kd.fk.rd w (· < w.heap.size) [.slice Af Lf Cf, .string f.table, .int .i64 f.onDelete, .int .i64 f.onUpdate, .bool false] f by have := HF.out; rw [hfd] at this; exact this)
      rw [hfd]
      clear hq HF hfd
      go_enter Tryz.func133, Tryz.ntmps133
      go_wp2_with fail
      refine (isLost_any _ f _ (hs.grow ((Grow.refl _).alloc _)) (hd.grow ((Grow.refl _).alloc _)) (Kd.fk.grow HF2.out ((Grow.refl _).alloc _)) (hv.grow ((Grow.refl _).alloc _)) HIN.out).mono ?_
      rintro e w2 ⟨rfl, g2⟩
      go_wp2
      go_ret
      exact ⟨ret_bool hf.out.symm, ((Grow.refl _).alloc _).trans g2⟩
theorem box_at {w w' : World} {c : Array Value} {t : TypeId} {n : Nat} (hn : w.heap.size = n) (h : Grow (w.alloc (.cells c t)) w') : ∀ o, w'.cell? ⟨n, o, none⟩ = c[o]? := fun o => by
  subst hn
  exact (h.same _ _ (by simp)).trans ((free_of (new_block w _)).1 o)
theorem boxed5 {w W : World} {c d f g i : Array Value} {t u v x y : TypeId} (hW : ((((w.alloc (.cells c t)).alloc (.cells d u)).alloc (.cells f v)).alloc (.cells g x)).alloc (.cells i y) = W) :
    Grow w W ∧ w.heap.size + 1 + 1 + 1 + 1 < W.heap.size ∧ (∀ o, W.cell? ⟨w.heap.size, o, none⟩ = c[o]?) ∧ (∀ o, W.cell? ⟨w.heap.size + 1, o, none⟩ = d[o]?) ∧ (∀ o, W.cell? ⟨w.heap.size + 1 + 1, o, none⟩ = f[o]?) ∧ (∀ o, W.cell? ⟨w.heap.size + 1 + 1 + 1, o, none⟩ = g[o]?) ∧ ∀ o, W.cell? ⟨w.heap.size + 1 + 1 + 1 + 1, o, none⟩ = i[o]? := by
  subst hW
  exact ⟨(((((Grow.refl _).alloc _).alloc _).alloc _).alloc _).alloc _, by simp, box_at (w := w) rfl (by repeat (with_reducible first | exact Grow.refl _ | assumption | refine Grow.drew ?_ | refine Grow.alloc ?_ _ | refine Grow.set ?_ (by first | exact Nat.le_refl _ | (simp; done) | (simp; omega) | omega) _ | exact And.left (by assumption) | refine Grow.trans ?_ (by assumption))), box_at (w := w.alloc (.cells c t)) (by simp) (by repeat (with_reducible first | exact Grow.refl _ | assumption | refine Grow.drew ?_ | refine Grow.alloc ?_ _ | refine Grow.set ?_ (by first | exact Nat.le_refl _ | (simp; done) | (simp; omega) | omega) _ | exact And.left (by assumption) | refine Grow.trans ?_ (by assumption))), box_at (w := (w.alloc (.cells c t)).alloc (.cells d u)) (by simp) (by repeat (with_reducible first | exact Grow.refl _ | assumption | refine Grow.drew ?_ | refine Grow.alloc ?_ _ | refine Grow.set ?_ (by first | exact Nat.le_refl _ | (simp; done) | (simp; omega) | omega) _ | exact And.left (by assumption) | refine Grow.trans ?_ (by assumption))),
    box_at (w := ((w.alloc (.cells c t)).alloc (.cells d u)).alloc (.cells f v)) (by simp) (by repeat (with_reducible first | exact Grow.refl _ | assumption | refine Grow.drew ?_ | refine Grow.alloc ?_ _ | refine Grow.set ?_ (by first | exact Nat.le_refl _ | (simp; done) | (simp; omega) | omega) _ | exact And.left (by assumption) | refine Grow.trans ?_ (by assumption))), box_at (w := (((w.alloc (.cells c t)).alloc (.cells d u)).alloc (.cells f v)).alloc (.cells g x)) (by simp) (by repeat (with_reducible first | exact Grow.refl _ | assumption | refine Grow.drew ?_ | refine Grow.alloc ?_ _ | refine Grow.set ?_ (by first | exact Nat.le_refl _ | (simp; done) | (simp; omega) | omega) _ | exact And.left (by assumption) | refine Grow.trans ?_ (by assumption)))⟩
theorem isLostRow_any (cs : List Value) (t : Table) (deferred : Bool) {A B C : Option Addr} {la ca lb cb lc cc : Nat} {s : List Table} {db : List Data} {vals : List Val} (w : World) (hs : IsSl Kd.table w (· < w.heap.size) A la ca s) (hd : IsSl Kd.data w (· < w.heap.size) B lb cb db)
    (h : Kd.table.rd w (· < w.heap.size) cs t) (hv : IsSl Kd.val w (· < w.heap.size) C lc cc vals) (hin : ∀ f ∈ t.fks, FkIn s db lc f) :
    Calls Tryz.prog 82 #[.slice A la ca, .slice B lb cb, .agg cs.toArray, .slice C lc cc, .bool deferred] w (Ret w (.bool (lostRow s db t vals deferred))) := by
  obtain ⟨Acols, Lcols, Ccols, Akey, Lkey, Ckey, Auniques, Luniques, Cuniques, Achecks, Lchecks, Cchecks, Afks, Lfks, Cfks, rfl, zname, scols, skey, suniques, schecks, sfks⟩ := h
  have HIN := Lib.hid hin
  clear hin
  go_enter Tryz.func82, Tryz.ntmps82
  go_wp2_with fail
  generalize hW : World.alloc _ _ = W
  obtain ⟨hg, sz, k0, k1, k2, k3, k4⟩ := boxed5 hW
  clear hW
  refine (containsFunc_fk _ enters_isLostRow1 _ _ (lostP s db deferred vals) _ (sfks.grow hg) (fun cs f w' hmem hw hrd => by simpa using isLostRow1_any cs f _ _ _ _ deferred w' (hs.grow (hg.trans hw)) (hd.grow (hg.trans hw)) hrd (hv.grow (hg.trans hw)) (HIN.out f hmem) (Nat.lt_of_lt_of_le sz hw.size) (by have := hw.size; omega) (by have := hw.size; omega) (by have := hw.size; omega) ((hw.same _ _ sz).trans (k4 0)) ((hw.same _ _ (by omega)).trans (k0 0)) ((hw.same _ _ (by omega)).trans (k1 0)) ((hw.same _ _ (by omega)).trans (k3 0))) (r := t.fks.any (lostP s db deferred vals)) rfl).mono ?_
  rintro e w1 ⟨rfl, hb⟩
  go_wp2
  go_ret
  exact ⟨ret_bool rfl, hg.trans hb⟩
end Go.Proofs.YtjeilgogjoidjaaGreat
