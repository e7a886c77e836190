import Derived.Test.YtjeilgogjoidjaaGreatAt
import Derived.Test.YtjeilgogjoidjaaGreatSch
import Derived.Test.YtjeilgogjoidjaaGreatExpr
/-! Tables: whether they are right. -/
namespace Go.Proofs.YtjeilgogjoidjaaGreat
open Go.RowKit
set_option linter.unusedVariables false
set_option linter.unusedSimpArgs false
def ofB (v : Val) (kind : Int) : Bool := okB v && (decide (v.kind = 0) || decide (v.kind = kind))
def colQ (xs : List Col) (i : Nat) (c : Col) : Bool := nameB c.name && (decide (c.kind = 1) || decide (c.kind = 2)) && ofB c.dflt c.kind && !((xs.take i).any (colP1 c.name))
def colsOkB (xs : List Col) : Bool := decide (1 ≤ xs.length ∧ xs.length ≤ 8) && allIx (colQ xs) xs
def fkB (n : Int) (f : Fk) : Bool := colsB f.cols n && nameB f.table && inB f.onDelete 0 2 && inB f.onUpdate 0 2
def keyP (cols : List Col) (c : Int) : Bool := match cols[c.toNat]? with | some x => !x.notNull | none => true
def keyBad (t : Table) : Bool := t.key.any (keyP t.cols)
def uniP (n : Int) (u : Unique) : Bool := !colsB u.cols n
def uniBad (t : Table) : Bool := t.uniques.any (uniP t.cols.length)
def chkP (n : Int) (c : Check) : Bool := !exprB n c.expr
def chkBad (t : Table) : Bool := t.checks.any (chkP t.cols.length)
def fkP (n : Int) (f : Fk) : Bool := !fkB n f
def fkBad (t : Table) : Bool := t.fks.any (fkP t.cols.length)
def tableOkB (t : Table) : Bool :=
  nameB t.name && colsOkB t.cols && colsB t.key t.cols.length && decide (t.uniques.length ≤ 3) && decide (t.checks.length ≤ 3) && decide (t.fks.length ≤ 3) && !keyBad t && !uniBad t && !chkBad t && !fkBad t
theorem isOf_any (k n : Int) (s : ByteArray) (kind : Int) (w : World) : Calls Tryz.prog 110 #[.agg #[.int .i64 k, .int .i64 n, .string s], .int .i64 kind] w (Ret w (.bool (ofB ⟨k, n, s⟩ kind))) := by
  go_enter Tryz.func110, Tryz.ntmps110
  go_wp2_with fail
  generalize hW : World.alloc w _ = W
  obtain ⟨hg, hs', k1⟩ := boxed1 hW
  clear hW
  have hcur := Grow.refl W
  cases ho : okB ⟨k, n, s⟩ with
  | false =>
    have hf := Lib.hid (show ofB ⟨k, n, s⟩ kind = false by simp [ofB, ho])
    go_wp2_with (first | (go_at_call 104; (with_reducible refine (iValOk_any _ _ _ _).mono ?_); rintro e w1 ⟨rfl, hb⟩; replace hcur := hcur.trans hb; replace hc := hcur.same; clear hb))
    go_ret
    exact ⟨ret_bool hf.out.symm, hg.trans hcur⟩
  | true =>
    have hf := Lib.hid (show ofB ⟨k, n, s⟩ kind = (decide (k = 0) || decide (k = kind)) by simp [ofB, ho])
    go_wp2_with (first | (go_at_call 104; (with_reducible refine (iValOk_any _ _ _ _).mono ?_); rintro e w1 ⟨rfl, hb⟩; replace hcur := hcur.trans hb; replace hc := hcur.same; clear hb))
    all_goals go_ret
    all_goals exact ⟨ret_bool (by rw [hf.out, Bool.eq_iff_iff]; simp; try omega), hg.trans hcur⟩
theorem isOf_eq {k n : Int} {s : ByteArray} {kind : Int} {w : World} {r : Bool} (h : ofB ⟨k, n, s⟩ kind = r) : Calls Tryz.prog 110 #[.agg #[.int .i64 k, .int .i64 n, .string s], .int .i64 kind] w (Ret w (.bool r)) := by
  subst h; exact isOf_any k n s kind w
theorem enters_areCols1 : Enters Tryz.prog 168 := ⟨fun a w => by go_simp⟩
theorem areCols1_any (cs : List Value) (x : Col) (name : ByteArray) (b : Nat) (w : World) (h : Kd.col.rd w (· < w.heap.size) cs x) (hb : b < w.heap.size) (hc : w.cell? ⟨b, 0, none⟩ = some (.string name)) :
    Calls Tryz.prog 168 #[.agg cs.toArray, .pointer (some ⟨b, 0, none⟩)] w (Ret w (.bool (colP1 name x))) := by
  obtain ⟨rfl, h1, h2⟩ := h
  go_enter Tryz.func168, Tryz.ntmps168
  go_wp2
  go_ret
  exact ⟨rfl, (by repeat (with_reducible first | exact Grow.refl _ | assumption | refine Grow.drew ?_ | refine Grow.alloc ?_ _ | refine Grow.set ?_ (by first | exact Nat.le_refl _ | (simp; done) | (simp; omega) | omega) _ | exact And.left (by assumption) | refine Grow.trans ?_ (by assumption)))⟩
theorem areCols_any {A : Option Addr} {len cap : Nat} {xs : List Col} (w : World) (h : IsSl Kd.col w (· < w.heap.size) A len cap xs) :
    Calls Tryz.prog 141 #[.slice A len cap] w (Ret w (.bool (colsOkB xs))) := by
  have hlen : len ≤ maxLen := Nat.le_trans h.2.1 h.2.2.1
  have hcap : len ≤ cap := h.2.1
  have hcm : cap ≤ maxLen := h.2.2.1
  have hxl := Lib.hid h.1
  unfold maxLen at hlen hcm
  go_enter Tryz.func141, Tryz.ntmps141
  go_wp2
  go_loopw [3, 4, 7] (fun _ _ i wr => ∃ k : Nat, k ≤ len ∧ k ≤ 8 ∧ i = .int .i64 k ∧ Grow w wr ∧ IxTo (colQ xs) xs k) (fun _ _ i _ => len - (intOf i).toNat)
  case atStart => exact ⟨0, Nat.zero_le _, Nat.zero_le _, rfl, Grow.refl _, IxTo.zero _ _⟩
  case round =>
    obtain ⟨k, hk, hk8, rfl, hG, hall⟩ := hrel
    by_cases hlt : k < len
    · obtain ⟨b, off, x, rfl, hx, _, hb, zn, zd, c0, c1, c2, c3, c4, c5, hrd⟩ := col_at (h.grow hG) hlt
      have i0 : (0 : Int) ≤ (k : Int) := Int.natCast_nonneg k
      have i1 : (k : Int) < (len : Int) := Int.ofNat_lt.mpr hlt
      have i2 : (k : Int) ≤ (cap : Int) := by omega
      by_cases h8 : k = 8
      · have hf := Lib.hid (show colsOkB xs = false by simp only [colsOkB, hxl.out]; rw [show decide (1 ≤ len ∧ len ≤ 8) = false from decide_eq_false (by omega), Bool.false_and])
        subst h8
        go_wp2
        go_ret
        exact ⟨ret_bool hf.out.symm, (by repeat (with_reducible first | exact Grow.refl _ | assumption | refine Grow.drew ?_ | refine Grow.alloc ?_ _ | refine Grow.set ?_ (by first | exact Nat.le_refl _ | (simp; done) | (simp; omega) | omega) _ | exact And.left (by assumption) | refine Grow.trans ?_ (by assumption)))⟩
      have h8' : ((k : Int) == 8) = false := by simp; omega
      have k7 : k ≤ 7 := by omega
      clear h8
      have HT := Lib.hid ((h.grow hG).take (m := k) (by omega))
      have bad := fun (h : colQ xs k x = false) => Lib.hid (show colsOkB xs = false by rw [colsOkB, allIx_false hx.out h, Bool.and_false])
      have HQ := Lib.hid (show colQ xs k x = (nameB x.name && (decide (x.kind = 1) || decide (x.kind = 2)) && ofB x.dflt x.kind && !((xs.take k).any (colP1 x.name))) from rfl)
      cases hn : nameB x.name with
      | false =>
        have hf := bad (by rw [HQ.out, hn]; rfl)
        go_wp2_with fail
        generalize hW : World.alloc wr _ = W
        obtain ⟨gW, sW, kW⟩ := boxed1 hW
        clear hW bad
        refine (isName_any _ _ zn).mono ?_
        rintro e w1 ⟨rfl, g1⟩
        have hc := g1.same
        have gG := (hG.trans gW).trans g1
        go_wp2
        go_ret
        exact ⟨ret_bool hf.out.symm, gG⟩
      | true =>
        by_cases hkd : x.kind = 1 ∨ x.kind = 2
        rotate_left
        · have hf := bad (by rw [HQ.out, hn, decide_eq_false (fun h => hkd (.inl h)), decide_eq_false (fun h => hkd (.inr h))]; rfl)
          have q1 : ¬ x.kind = 1 := fun h => hkd (.inl h)
          have q2 : ¬ x.kind = 2 := fun h => hkd (.inr h)
          clear hkd
          go_wp2_with fail
          generalize hW : World.alloc wr _ = W
          obtain ⟨gW, sW, kW⟩ := boxed1 hW
          clear hW bad
          refine (isName_any _ _ zn).mono ?_
          rintro e w1 ⟨rfl, g1⟩
          have hc := g1.same
          have gG := (hG.trans gW).trans g1
          go_wp2
          go_ret
          exact ⟨ret_bool hf.out.symm, gG⟩
        have HK := Lib.hid (show (decide (x.kind = 1) || decide (x.kind = 2)) = true by simp; exact hkd)
        rcases hkd with hkd | hkd
        all_goals
          cases ho : ofB x.dflt x.kind with
          | false =>
            have hf := bad (by rw [HQ.out, hn, HK.out, ho]; rfl)
            have HO := Lib.hid (show ofB ⟨x.dflt.kind, x.dflt.n, x.dflt.s⟩ x.kind = false from ho)
            rw [hkd] at HO
            clear ho
            go_wp2_with fail
            generalize hW : World.alloc wr _ = W
            obtain ⟨gW, sW, kW⟩ := boxed1 hW
            clear hW bad
            have hcur := Grow.refl W
            have gw := hG.trans gW
            go_wp2_with (first | (go_at_call 140; (with_reducible refine (isName_any _ _ zn).mono ?_); rintro e w1 ⟨rfl, hb⟩; replace hcur := hcur.trans hb; replace hc := hcur.same; clear hb) | (go_at_call 110; (with_reducible refine (isOf_eq HO.out).mono ?_); rintro e w1 ⟨rfl, hb⟩; replace hcur := hcur.trans hb; replace hc := hcur.same; clear hb))
            all_goals first
              | omega
              | (go_ret; exact ⟨ret_bool hf.out.symm, gw.trans hcur⟩)
          | true =>
            cases hd : (xs.take k).any (colP1 x.name) with
            | true =>
              have hf := bad (by rw [HQ.out, hn, HK.out, ho, hd]; rfl)
              have HD := Lib.hid hd
              have HO := Lib.hid (show ofB ⟨x.dflt.kind, x.dflt.n, x.dflt.s⟩ x.kind = true from ho)
              rw [hkd] at HO
              clear hd ho
              go_wp2_with fail
              generalize hW : World.alloc wr _ = W
              obtain ⟨gW, sW, kW⟩ := boxed1 hW
              clear hW bad
              have hcur := Grow.refl W
              have gw := hG.trans gW
              go_wp2_with (first | (go_at_call 140; (with_reducible refine (isName_any _ _ zn).mono ?_); rintro e w1 ⟨rfl, hb⟩; replace hcur := hcur.trans hb; replace hc := hcur.same; clear hb) | (go_at_call 110; (with_reducible refine (isOf_eq HO.out).mono ?_); rintro e w1 ⟨rfl, hb⟩; replace hcur := hcur.trans hb; replace hc := hcur.same; clear hb) | (go_at_call 167; refine ( containsFunc_col _ enters_areCols1 _ _ (colP1 x.name) _ (HT.out.grow (gW.trans hcur)) (fun cs y w' _ hw hrd => by simpa using areCols1_any cs y x.name _ w' hrd (Nat.lt_of_lt_of_le sW (hcur.trans hw).size) (((hcur.trans hw).same _ _ sW).trans (kW 0))) HD.out).mono ?_; rintro e w1 ⟨rfl, hb⟩; replace hcur := hcur.trans hb; replace hc := hcur.same; clear hb))
              all_goals (go_ret; exact ⟨ret_bool hf.out.symm, gw.trans hcur⟩)
            | false =>
              have hp := Lib.hid (show colQ xs k x = true by rw [HQ.out, hn, HK.out, ho, hd]; rfl)
              have HD := Lib.hid hd
              have HO := Lib.hid (show ofB ⟨x.dflt.kind, x.dflt.n, x.dflt.s⟩ x.kind = true from ho)
              rw [hkd] at HO
              clear hd ho
              go_wp2_with fail
              generalize hW : World.alloc wr _ = W
              obtain ⟨gW, sW, kW⟩ := boxed1 hW
              clear hW bad
              have hcur := Grow.refl W
              have gw := hG.trans gW
              go_wp2_with (first | (go_at_call 140; (with_reducible refine (isName_any _ _ zn).mono ?_); rintro e w1 ⟨rfl, hb⟩; replace hcur := hcur.trans hb; replace hc := hcur.same; clear hb) | (go_at_call 110; (with_reducible refine (isOf_eq HO.out).mono ?_); rintro e w1 ⟨rfl, hb⟩; replace hcur := hcur.trans hb; replace hc := hcur.same; clear hb) | (go_at_call 167; refine ( containsFunc_col _ enters_areCols1 _ _ (colP1 x.name) _ (HT.out.grow (gW.trans hcur)) (fun cs y w' _ hw hrd => by simpa using areCols1_any cs y x.name _ w' hrd (Nat.lt_of_lt_of_le sW (hcur.trans hw).size) (((hcur.trans hw).same _ _ sW).trans (kW 0))) HD.out).mono ?_; rintro e w1 ⟨rfl, hb⟩; replace hcur := hcur.trans hb; replace hc := hcur.same; clear hb))
              go_roundw
              case rel => exact ⟨k + 1, by omega, by omega, by go_num, gw.trans hcur, hall.succ hx.out hp.out⟩
              case measure => simp [intOf]; omega
    · have hf := Lib.hid (show colsOkB xs = decide (0 < len) by simp only [colsOkB, hall.done (by rw [hxl.out]; omega), Bool.and_true, hxl.out]; rw [Bool.eq_iff_iff]; simp; omega)
      go_wp2
      go_ret
      exact ⟨ret_bool hf.out.symm, hG⟩
theorem isFk_any (cs : List Value) (f : Fk) (n : Int) (w : World) (h : Kd.fk.rd w (· < w.heap.size) cs f) (n0 : 0 ≤ n) (n1 : n ≤ 9223372036854775807) :
    Calls Tryz.prog 148 #[.agg cs.toArray, .int .i64 n] w (Ret w (.bool (fkB n f))) := by
  obtain ⟨Acols, Lcols, Ccols, rfl, ztab, scols⟩ := h
  go_enter Tryz.func148, Tryz.ntmps148
  go_wp2_with fail
  generalize hW : World.alloc w _ = W
  obtain ⟨hg, hs', k1⟩ := boxed1 hW
  clear hW
  have hcur := Grow.refl W
  have hc := hcur.same
  go_wp2_with (first | (go_at_call 106; (with_reducible refine (areColumns_any n _ (scols.grow (hg.trans hcur)) n0 n1).mono ?_); rintro e w1 ⟨rfl, hb⟩; replace hcur := hcur.trans hb; replace hc := hcur.same; clear hb) | (go_at_call 140; (with_reducible refine (isName_any _ _ ztab).mono ?_); rintro e w1 ⟨rfl, hb⟩; replace hcur := hcur.trans hb; replace hc := hcur.same; clear hb) | (go_at_call 57; (with_reducible refine (in_any _ _ _ _).mono ?_); rintro e w1 ⟨rfl, rfl⟩))
  all_goals go_ret
  all_goals exact ⟨ret_bool (by simp [fkB, *]), hg.trans hcur⟩
theorem enters_TableOk1 : Enters Tryz.prog 142 := ⟨fun a w => by go_simp⟩
theorem tableOk1_any (c : Int) (b : Nat) {A : Option Addr} {len cap : Nat} {xs : List Col} (w : World) (h : IsSl Kd.col w (· < w.heap.size) A len cap xs) (hb : b < w.heap.size) (hc : w.cell? ⟨b, 1, none⟩ = some (.slice A len cap)) (h0 : 0 ≤ c) (h1 : c < len) :
    Calls Tryz.prog 142 #[.int .i64 c, .pointer (some ⟨b, 0, none⟩)] w (Ret w (.bool (keyP xs c))) := by
  obtain ⟨k, rfl⟩ := Int.eq_ofNat_of_zero_le h0
  have hk : k < len := by omega
  have hlen : len ≤ maxLen := Nat.le_trans h.2.1 h.2.2.1
  unfold maxLen at hlen
  obtain ⟨b', off, x, rfl, hx, _, hb', zn, zd, c0, c1, c2, c3, c4, c5, hrd⟩ := col_at h hk
  have hf := Lib.hid (show keyP xs k = !x.notNull by simp [keyP, hx.out])
  go_enter Tryz.func142, Tryz.ntmps142
  go_wp2
  go_ret
  exact ⟨ret_bool hf.out.symm, (by repeat (with_reducible first | exact Grow.refl _ | assumption | refine Grow.drew ?_ | refine Grow.alloc ?_ _ | refine Grow.set ?_ (by first | exact Nat.le_refl _ | (simp; done) | (simp; omega) | omega) _ | exact And.left (by assumption) | refine Grow.trans ?_ (by assumption)))⟩
theorem enters_TableOk2 : Enters Tryz.prog 144 := ⟨fun a w => by go_simp⟩
theorem tableOk2_any (cs : List Value) (u : Unique) (n : Int) (b : Nat) (w : World) (h : Kd.unique.rd w (· < w.heap.size) cs u) (hb : b < w.heap.size) (hc : w.cell? ⟨b, 0, none⟩ = some (.int .i64 n)) (n0 : 0 ≤ n) (n1 : n ≤ 9223372036854775807) :
    Calls Tryz.prog 144 #[.agg cs.toArray, .pointer (some ⟨b, 0, none⟩)] w (Ret w (.bool (uniP n u))) := by
  obtain ⟨Acols, Lcols, Ccols, rfl, scols⟩ := h
  go_enter Tryz.func144, Tryz.ntmps144
  go_wp2_with fail
  generalize hW : World.alloc w _ = W
  obtain ⟨hg, hs', k1⟩ := boxed1 hW
  clear hW
  have hcur := Grow.refl W
  have hc2 := hcur.same
  have hcb : W.cell? ⟨b, 0, none⟩ = _ := (hg.same _ _ hb).trans hc
  have hbW := Nat.lt_of_lt_of_le hb hg.size
  go_wp2_with (first | (go_at_call 106; (with_reducible refine (areColumns_any n _ (scols.grow (hg.trans hcur)) n0 n1).mono ?_); rintro e w1 ⟨rfl, hb⟩; replace hcur := hcur.trans hb; replace hc := hcur.same; clear hb))
  go_ret
  exact ⟨ret_bool rfl, hg.trans hcur⟩
theorem enters_TableOk3 : Enters Tryz.prog 145 := ⟨fun a w => by go_simp⟩
theorem tableOk3_any (cs : List Value) (u : Check) (n : Int) (b : Nat) (w : World) (h : Kd.check.rd w (· < w.heap.size) cs u) (hb : b < w.heap.size) (hc : w.cell? ⟨b, 0, none⟩ = some (.int .i64 n)) :
    Calls Tryz.prog 145 #[.agg cs.toArray, .pointer (some ⟨b, 0, none⟩)] w (Ret w (.bool (chkP n u))) := by
  obtain ⟨Aexpr, Lexpr, Cexpr, rfl, sexpr⟩ := h
  go_enter Tryz.func145, Tryz.ntmps145
  go_wp2_with fail
  generalize hW : World.alloc w _ = W
  obtain ⟨hg, hs', k1⟩ := boxed1 hW
  clear hW
  have hcur := Grow.refl W
  have hc2 := hcur.same
  have hcb : W.cell? ⟨b, 0, none⟩ = _ := (hg.same _ _ hb).trans hc
  have hbW := Nat.lt_of_lt_of_le hb hg.size
  go_wp2_with (first | (go_at_call 146; (with_reducible refine (iExprOk_any n _ (sexpr.grow (hg.trans hcur))).mono ?_); rintro e w1 ⟨rfl, hb⟩; replace hcur := hcur.trans hb; replace hc := hcur.same; clear hb))
  go_ret
  exact ⟨ret_bool rfl, hg.trans hcur⟩
theorem enters_TableOk4 : Enters Tryz.prog 147 := ⟨fun a w => by go_simp⟩
theorem tableOk4_any (cs : List Value) (u : Fk) (n : Int) (b : Nat) (w : World) (h : Kd.fk.rd w (· < w.heap.size) cs u) (hb : b < w.heap.size) (hc : w.cell? ⟨b, 0, none⟩ = some (.int .i64 n)) (n0 : 0 ≤ n) (n1 : n ≤ 9223372036854775807) :
    Calls Tryz.prog 147 #[.agg cs.toArray, .pointer (some ⟨b, 0, none⟩)] w (Ret w (.bool (fkP n u))) := by
  have H := Lib.hid h
  obtain ⟨Acols, Lcols, Ccols, rfl, ztab, scols⟩ := h
  go_enter Tryz.func147, Tryz.ntmps147
  go_wp2_with fail
  generalize hW : World.alloc w _ = W
  obtain ⟨hg, hs', k1⟩ := boxed1 hW
  clear hW
  have hcur := Grow.refl W
  have hc2 := hcur.same
  have hcb : W.cell? ⟨b, 0, none⟩ = _ := (hg.same _ _ hb).trans hc
  have hbW := Nat.lt_of_lt_of_le hb hg.size
  go_wp2_with (first | (go_at_call 148; (with_reducible refine (isFk_any _ u n _ (Kd.grow _ H.out (hg.trans hcur)) n0 n1).mono ?_); rintro e w1 ⟨rfl, hb⟩; replace hcur := hcur.trans hb; replace hc := hcur.same; clear hb))
  go_ret
  exact ⟨ret_bool rfl, hg.trans hcur⟩
theorem colsB_mem {l : List Int} {n c : Int} (h : colsB l n = true) (hc : c ∈ l) : 0 ≤ c ∧ c < n := by
  obtain ⟨k, hk, rfl⟩ := List.getElem_of_mem hc
  simp only [colsB, Bool.and_eq_true] at h
  have := allIx_at h.2 (List.getElem?_eq_getElem hk)
  simp [colP, inB] at this
  omega
theorem iTableOk_any (cs : List Value) (t : Table) (w : World) (h : Kd.table.rd w (· < w.heap.size) cs t) :
    Calls Tryz.prog 89 #[.agg cs.toArray] w (Ret w (.bool (tableOkB t))) := by
  obtain ⟨Acols, Lcols, Ccols, Akey, Lkey, Ckey, Auniques, Luniques, Cuniques, Achecks, Lchecks, Cchecks, Afks, Lfks, Cfks, rfl, zname, scols, skey, suniques, schecks, sfks⟩ := h
  obtain rfl := scols.1
  have hn1 : t.cols.length ≤ maxLen := Nat.le_trans scols.2.1 scols.2.2.1
  have hu1 : Luniques ≤ maxLen := Nat.le_trans suniques.2.1 suniques.2.2.1
  have hu2 : Lchecks ≤ maxLen := Nat.le_trans schecks.2.1 schecks.2.2.1
  have hu3 : Lfks ≤ maxLen := Nat.le_trans sfks.2.1 sfks.2.2.1
  have HU := Lib.hid suniques.1
  have HC := Lib.hid schecks.1
  have HF := Lib.hid sfks.1
  unfold maxLen at hn1 hu1 hu2 hu3
  go_enter Tryz.func89, Tryz.ntmps89
  go_wp2_with fail
  generalize hW : World.alloc (World.alloc w _) _ = W
  obtain ⟨hg, hs, hs', k1, k2⟩ := boxed2 hW
  clear hW
  have hcur := Grow.refl W
  have hc := hcur.same
  go_wp2_with (first | (go_at_call 140; (with_reducible refine (isName_any _ _ zname).mono ?_); rintro e w1 ⟨rfl, hb⟩; replace hcur := hcur.trans hb; replace hc := hcur.same; clear hb) | (go_at_call 141; (with_reducible refine (areCols_any _ (scols.grow (hg.trans hcur))).mono ?_); rintro e w1 ⟨rfl, hb⟩; replace hcur := hcur.trans hb; replace hc := hcur.same; clear hb) | (go_at_call 106; refine (areColumns_any _ _ (skey.grow (hg.trans hcur)) (by omega) (by omega)).mono ?_; rintro e w1 ⟨rfl, hb⟩; replace hcur := hcur.trans hb; replace hc := hcur.same; clear hb) | (go_at_call 55; have hkc : colsB t.key t.cols.length = true := (by assumption); refine (containsFunc_int _ enters_TableOk1 _ _ (keyP t.cols) _ (skey.grow (hg.trans hcur)) (fun c w' hx hw => by simpa using tableOk1_any c _ w' (scols.grow ((hg.trans hcur).trans hw)) (Nat.lt_of_lt_of_le hs (hcur.trans hw).size) (((hcur.trans hw).same _ _ hs).trans (k1 1)) (colsB_mem hkc hx).1 (colsB_mem hkc hx).2)).mono ?_; rintro e w1 ⟨he, hb⟩; replace he : e = .returned (.bool (keyBad t)) := he; subst he; replace hcur := hcur.trans hb; replace hc := hcur.same; clear hb) | (go_at_call 143; refine (containsFunc_unique _ enters_TableOk2 _ _ (uniP t.cols.length) _ (suniques.grow (hg.trans hcur)) (fun cs u w' _ hw hrd => by simpa using tableOk2_any cs u _ _ w' hrd (Nat.lt_of_lt_of_le hs' (hcur.trans hw).size) (((hcur.trans hw).same _ _ hs').trans (k2 0)) (by omega) (by omega)) (r := uniBad t) rfl).mono ?_; rintro e w1 ⟨rfl, hb⟩; replace hcur := hcur.trans hb; replace hc := hcur.same; clear hb) | (go_at_call 128; refine (containsFunc_check _ enters_TableOk3 _ _ (chkP t.cols.length) _ (schecks.grow (hg.trans hcur)) (fun cs u w' _ hw hrd => by simpa using tableOk3_any cs u _ _ w' hrd (Nat.lt_of_lt_of_le hs' (hcur.trans hw).size) (((hcur.trans hw).same _ _ hs').trans (k2 0))) (r := chkBad t) rfl).mono ?_; rintro e w1 ⟨rfl, hb⟩; replace hcur := hcur.trans hb; replace hc := hcur.same; clear hb) | (go_at_call 39; refine (containsFunc_fk _ enters_TableOk4 _ _ (fkP t.cols.length) _ (sfks.grow (hg.trans hcur)) (fun cs u w' _ hw hrd => by simpa using tableOk4_any cs u _ _ w' hrd (Nat.lt_of_lt_of_le hs' (hcur.trans hw).size) (((hcur.trans hw).same _ _ hs').trans (k2 0)) (by omega) (by omega)) (r := fkBad t) rfl).mono ?_; rintro e w1 ⟨rfl, hb⟩; replace hcur := hcur.trans hb; replace hc := hcur.same; clear hb))
  all_goals go_ret
  all_goals exact ⟨ret_bool (by simp [tableOkB, HU.out, HC.out, HF.out, *] <;> (intros; omega)), hg.trans hcur⟩
end Go.Proofs.YtjeilgogjoidjaaGreat
