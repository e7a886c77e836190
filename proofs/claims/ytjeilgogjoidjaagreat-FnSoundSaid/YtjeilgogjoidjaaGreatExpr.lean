import Derived.Test.YtjeilgogjoidjaaGreatFill
import Derived.Test.YtjeilgogjoidjaaGreatTru
/-! Expressions: which are right. -/
namespace Go.Proofs.YtjeilgogjoidjaaGreat
open Go.RowKit
set_option linter.unusedVariables false
set_option linter.unusedSimpArgs false

def isZ (v : Val) : Bool := v.kind == 0 && (v.n == 0 && v.s.toList.isEmpty)
def takesB (t : Tok) : Int := if t.kind = 1 ∨ t.kind = 2 then 0 else if t.kind = 7 ∨ t.kind = 8 then 1 else 2
def isTokB (t : Tok) (cols : Int) : Bool :=
  if t.kind = 1 then inB t.col 0 (cols - 1) && isZ t.v
  else if t.kind = 2 then t.col == 0 && okB t.v
  else inB t.kind 3 10 && (t.col == 0 && isZ t.v)
def exprStep (cols : Int) (acc : Option Int) (t : Tok) : Option Int := acc.bind fun l => if isTokB t cols = true ∧ takesB t ≤ l then some (l + 1 - takesB t) else none
def exprRun (cols : Int) (e : List Tok) : Option Int := e.foldl (exprStep cols) (some 0)
def exprL (cols : Int) (e : List Tok) : Bool := decide (exprRun cols e = some 1) && decide (e.length ≤ 24)
def exprB (cols : Int) (e : List Tok) : Bool := inB cols 0 16 && exprL cols e
theorem takesB_le (t : Tok) : 0 ≤ takesB t ∧ takesB t ≤ 2 := by unfold takesB; split <;> (try split) <;> decide
theorem exprRun_take {cols : Int} {e : List Tok} {k : Nat} {x : Tok} (hx : e[k]? = some x) : exprRun cols (e.take (k + 1)) = exprStep cols (exprRun cols (e.take k)) x := by
  unfold exprRun
  obtain ⟨hk, rfl⟩ := List.getElem?_eq_some_iff.mp hx
  rw [List.take_succ_eq_append_getElem hk, List.foldl_append]
  rfl
theorem foldl_none (cols : Int) : ∀ l : List Tok, l.foldl (exprStep cols) none = none
  | [] => rfl
  | a :: l => foldl_none cols l
theorem exprRun_none {cols : Int} {e : List Tok} {k : Nat} (h : exprRun cols (e.take k) = none) : exprRun cols e = none := by
  unfold exprRun at *
  rw [← List.take_append_drop k e, List.foldl_append, h]
  exact foldl_none _ _
theorem exprRun_all (cols : Int) {e : List Tok} {k : Nat} (h : e.length ≤ k) : exprRun cols (e.take k) = exprRun cols e := by rw [List.take_of_length_le h]
theorem takes_any (cs : List Value) (x : Tok) {S : Nat → Prop} {W : World} (h : Kd.tok.rd W S cs x) (w : World) :
    Calls Tryz.prog 171 #[.agg cs.toArray] w (Ret w (.int .i64 (takesB x))) := by
  obtain ⟨rfl, zs⟩ := h
  go_enter Tryz.func171, Tryz.ntmps171
  go_wp2
  all_goals go_ret
  all_goals refine ⟨ret_int ?_, (by repeat (with_reducible first | exact Grow.refl _ | assumption | refine Grow.drew ?_ | refine Grow.alloc ?_ _ | refine Grow.set ?_ (by first | exact Nat.le_refl _ | (simp; done) | (simp; omega) | omega) _ | exact And.left (by assumption) | refine Grow.trans ?_ (by assumption)))⟩
  all_goals simp_all [takesB]
theorem isTok_any (cols : Int) (cs : List Value) (x : Tok) {S : Nat → Prop} {W : World} (h : Kd.tok.rd W S cs x) (w : World) (h0 : 0 ≤ cols) (h1 : cols ≤ 1048576) :
    Calls Tryz.prog 170 #[.agg cs.toArray, .int .i64 cols] w (Ret w (.bool (isTokB x cols))) := by
  obtain ⟨rfl, zs⟩ := h
  have hcur := Grow.refl w
  go_enter Tryz.func170, Tryz.ntmps170
  go_wp2_with (first | (go_at_call 57; (with_reducible refine (in_any _ _ _ _).mono ?_); rintro e w1 ⟨rfl, rfl⟩) | (go_at_call 104; (with_reducible refine (iValOk_any _ _ _ _).mono ?_); rintro e w1 ⟨rfl, hb⟩; replace hcur : Grow w w1 := (by repeat (with_reducible first | exact Grow.refl _ | assumption | refine Grow.drew ?_ | refine Grow.alloc ?_ _ | refine Grow.set ?_ (by first | exact Nat.le_refl _ | (simp; done) | (simp; omega) | omega) _ | exact And.left (by assumption) | refine Grow.trans ?_ (by assumption))); clear hb))
  all_goals go_ret
  all_goals refine ⟨ret_bool ?_, (by repeat (with_reducible first | exact Grow.refl _ | assumption | refine Grow.drew ?_ | refine Grow.alloc ?_ _ | refine Grow.set ?_ (by first | exact Nat.le_refl _ | (simp; done) | (simp; omega) | omega) _ | exact And.left (by assumption) | refine Grow.trans ?_ (by assumption)))⟩
  all_goals simp_all [isTokB, isZ]
theorem l2Takes_any (cols : Int) (cs : List Value) (x : Tok) {S : Nat → Prop} {W : World} (h : Kd.tok.rd W S cs x) (w : World) (h0 : 0 ≤ cols) (h1 : cols ≤ 1048576) :
    Calls Tryz.prog 176 #[.agg cs.toArray, .int .i64 cols] w (Ret w (.int .i64 (if isTokB x cols then takesB x else -1))) := by
  obtain ⟨rfl, zs⟩ := h
  have hcur := Grow.refl w
  go_enter Tryz.func176, Tryz.ntmps176
  go_wp2_with (first | (go_at_call 42; (with_reducible refine (l1In_any _ _ _ _).mono ?_); rintro e w1 ⟨rfl, rfl⟩) | (go_at_call 116; (with_reducible refine (sValOk_any _ _ _ _).mono ?_); rintro e w1 ⟨rfl, hb⟩; replace hcur : Grow w w1 := (by repeat (with_reducible first | exact Grow.refl _ | assumption | refine Grow.drew ?_ | refine Grow.alloc ?_ _ | refine Grow.set ?_ (by first | exact Nat.le_refl _ | (simp; done) | (simp; omega) | omega) _ | exact And.left (by assumption) | refine Grow.trans ?_ (by assumption))); clear hb))
  all_goals go_ret
  all_goals refine ⟨ret_int ?_, (by repeat (with_reducible first | exact Grow.refl _ | assumption | refine Grow.drew ?_ | refine Grow.alloc ?_ _ | refine Grow.set ?_ (by first | exact Nat.le_refl _ | (simp; done) | (simp; omega) | omega) _ | exact And.left (by assumption) | refine Grow.trans ?_ (by assumption)))⟩
  all_goals simp_all [isTokB, isZ, takesB]
  all_goals first | (simp_all [inB]; done) | (simp_all [inB]; omega) | (simp [inB] at *; omega)
theorem l2Expr_any (cols : Int) {A : Option Addr} {len cap : Nat} {xs : List Tok} (w : World) (h : IsSl Kd.tok w (· < w.heap.size) A len cap xs) (h0 : 0 ≤ cols) (h1 : cols ≤ 1048576) :
    Calls Tryz.prog 163 #[.slice A len cap, .int .i64 cols] w (Ret w (.bool (exprL cols xs))) := by
  have hlen : len ≤ maxLen := Nat.le_trans h.2.1 h.2.2.1
  have HX := Lib.hid h.1
  unfold maxLen at hlen
  go_enter Tryz.func163, Tryz.ntmps163
  go_wp2
  go_loopw [5, 6] (fun l i wr => ∃ (k : Nat) (r : Int), k ≤ len ∧ i = .int .i64 k ∧ l = .int .i64 r ∧ Hid (exprRun cols (xs.take k) = some r) ∧ 0 ≤ r ∧ r ≤ k ∧ Grow w wr) (fun _ i _ => len - (intOf i).toNat)
  case atStart => exact ⟨0, 0, Nat.zero_le _, rfl, rfl, rfl, by omega, by omega, Grow.refl _⟩
  case round =>
    obtain ⟨k, r, hk, rfl, rfl, hr, r0, r1, hg⟩ := hrel
    by_cases hlt : k < len
    · obtain ⟨b, off, x, rfl, hx, _, hb, hs, c0, c1, c2, c3, c4, hrd⟩ := tok_at (h.grow hg) hlt
      obtain ⟨t0, t1⟩ := takesB_le x
      have hst := exprRun_take (cols := cols) hx.out
      rw [hr.out, exprStep, Option.bind_some] at hst
      go_wp2_with fail
      refine (l2Takes_any cols _ x hrd _ h0 h1).mono ?_
      rintro e w1 ⟨rfl, hb⟩
      by_cases ht : isTokB x cols = true
      · rw [if_pos ht]
        by_cases hle : takesB x ≤ r
        · rw [if_pos ⟨ht, hle⟩] at hst
          have hst' := Lib.hid hst
          clear hst hr
          go_wp2
          go_roundw
          case rel => exact ⟨k + 1, r + 1 - takesB x, by omega, by go_num, by go_num, hst', by omega, by omega, hg.trans hb⟩
          case measure => simp [intOf]; omega
        · rw [if_neg (fun hh => hle hh.2)] at hst
          have hn := exprRun_none hst
          have hl : exprL cols xs = false := by simp [exprL, hn]
          clear hst hr hn
          go_wp2
          go_ret
          exact ⟨ret_bool hl.symm, hg.trans hb⟩
      · rw [if_neg ht]
        rw [if_neg (fun hh => ht hh.1)] at hst
        have hn := exprRun_none hst
        have hl : exprL cols xs = false := by simp [exprL, hn]
        clear hst hr hn
        go_wp2
        go_ret
        exact ⟨ret_bool hl.symm, hg.trans hb⟩
    · have hrr := hr.out
      rw [exprRun_all cols (by rw [HX.out]; omega)] at hrr
      have hl : exprL cols xs = (r == 1 && decide ((len : Int) ≤ 24)) := by
        simp only [exprL, hrr, HX.out]; rw [Bool.eq_iff_iff]; simp; omega
      have hl' := Lib.hid hl
      clear hl hrr hr
      go_wp2
      all_goals go_ret
      all_goals exact ⟨ret_bool (by rw [hl'.out]; simp_all), hg⟩
theorem iExprOk_any (cols : Int) {A : Option Addr} {len cap : Nat} {xs : List Tok} (w : World) (h : IsSl Kd.tok w (· < w.heap.size) A len cap xs) :
    Calls Tryz.prog 146 #[.slice A len cap, .int .i64 cols] w (Ret w (.bool (exprB cols xs))) := by
  have hlen : len ≤ maxLen := Nat.le_trans h.2.1 h.2.2.1
  have HX := Lib.hid h.1
  unfold maxLen at hlen
  have hcur := Grow.refl w
  by_cases hc : inB cols 0 16 = true
  rotate_left
  · replace hc : inB cols 0 16 = false := by simpa using hc
    go_enter Tryz.func146, Tryz.ntmps146
    go_wp2_with (first | (go_at_call 57; (with_reducible refine (in_any _ _ _ _).mono ?_); rintro e w1 ⟨rfl, rfl⟩))
    all_goals go_ret
    all_goals exact ⟨ret_bool (by simp [exprB, hc]), hcur⟩
  by_cases hl : len ≤ 24
  rotate_left
  · have hf := Lib.hid (show exprB cols xs = false by simp [exprB, exprL, HX.out]; intros; omega)
    go_enter Tryz.func146, Tryz.ntmps146
    go_wp2_with (first | (go_at_call 57; (with_reducible refine (in_any _ _ _ _).mono ?_); rintro e w1 ⟨rfl, rfl⟩))
    all_goals go_ret
    all_goals exact ⟨ret_bool hf.out.symm, hcur⟩
  have h0 : 0 ≤ cols := by simp [inB] at hc; omega
  have h1 : cols ≤ 1048576 := by simp [inB] at hc; omega
  have hl1 : (len : Int) ≤ 24 := by omega
  go_enter Tryz.func146, Tryz.ntmps146
  go_wp2_with (first | (go_at_call 57; (with_reducible refine (in_any _ _ _ _).mono ?_); rintro e w1 ⟨rfl, rfl⟩))
  go_loopw [5, 18] (fun l i wr => ∃ (k : Nat) (r : Int), k ≤ len ∧ i = .int .i64 k ∧ l = .int .i64 r ∧ Hid (exprRun cols (xs.take k) = some r) ∧ 0 ≤ r ∧ r ≤ k ∧ Grow w wr) (fun _ i _ => len - (intOf i).toNat)
  case atStart => exact ⟨0, 0, Nat.zero_le _, rfl, rfl, rfl, by omega, by omega, Grow.refl _⟩
  case round =>
    obtain ⟨k, r, hk, rfl, rfl, hr, r0, r1, hg⟩ := hrel
    clear hcur
    by_cases hlt : k < len
    · obtain ⟨b, off, x, rfl, hx, _, hb, hs, c0, c1, c2, c3, c4, hrd⟩ := tok_at (h.grow hg) hlt
      obtain ⟨t0, t1⟩ := takesB_le x
      have hst := exprRun_take (cols := cols) hx.out
      rw [hr.out, exprStep, Option.bind_some] at hst
      by_cases ht : isTokB x cols = true ∧ takesB x ≤ r
      · rw [if_pos ht] at hst
        obtain ⟨ht, hle⟩ := ht
        have hst' := Lib.hid hst
        clear hst hr
        go_wp2_with fail
        generalize hW : World.alloc wr _ = W
        obtain ⟨hgW, hs', k1⟩ := boxed1 hW
        clear hW
        have hcur := Grow.refl W
        go_wp2_with (first | (go_at_call 170; (with_reducible refine (isTok_any cols _ x hrd _ h0 h1).mono ?_); rintro e w1 ⟨rfl, hb⟩; replace hcur := hcur.trans hb; replace hc := hcur.same; clear hb) | (go_at_call 171; (with_reducible refine (takes_any _ x hrd _).mono ?_); rintro e w1 ⟨rfl, hb⟩; replace hcur := hcur.trans hb; replace hc := hcur.same; clear hb))
        go_roundw
        case rel => exact ⟨k + 1, r + 1 - takesB x, by omega, by go_num, by go_num, hst', by omega, by omega, hg.trans (hgW.trans hcur)⟩
        case measure => simp [intOf]; omega
      · rw [if_neg ht] at hst
        have hn := exprRun_none hst
        have hl := Lib.hid (show exprB cols xs = false by simp [exprB, exprL, hn])
        clear hst hr hn
        by_cases ht' : isTokB x cols = true
        · have hle : ¬ takesB x ≤ r := fun hh => ht ⟨ht', hh⟩
          clear ht
          go_wp2_with fail
          generalize hW : World.alloc wr _ = W
          obtain ⟨hgW, hs', k1⟩ := boxed1 hW
          clear hW
          have hcur := Grow.refl W
          go_wp2_with (first | (go_at_call 170; (with_reducible refine (isTok_any cols _ x hrd _ h0 h1).mono ?_); rintro e w1 ⟨rfl, hb⟩; replace hcur := hcur.trans hb; replace hc := hcur.same; clear hb) | (go_at_call 171; (with_reducible refine (takes_any _ x hrd _).mono ?_); rintro e w1 ⟨rfl, hb⟩; replace hcur := hcur.trans hb; replace hc := hcur.same; clear hb))
          go_ret
          exact ⟨ret_bool hl.out.symm, hg.trans (hgW.trans hcur)⟩
        · replace ht' : isTokB x cols = false := by simpa using ht'
          clear ht
          go_wp2_with fail
          generalize hW : World.alloc wr _ = W
          obtain ⟨hgW, hs', k1⟩ := boxed1 hW
          clear hW
          have hcur := Grow.refl W
          go_wp2_with (first | (go_at_call 170; (with_reducible refine (isTok_any cols _ x hrd _ h0 h1).mono ?_); rintro e w1 ⟨rfl, hb⟩; replace hcur := hcur.trans hb; replace hc := hcur.same; clear hb) | (go_at_call 171; (with_reducible refine (takes_any _ x hrd _).mono ?_); rintro e w1 ⟨rfl, hb⟩; replace hcur := hcur.trans hb; replace hc := hcur.same; clear hb))
          go_ret
          exact ⟨ret_bool hl.out.symm, hg.trans (hgW.trans hcur)⟩
    · have hrr := hr.out
      rw [exprRun_all cols (by rw [HX.out]; omega)] at hrr
      have hl := Lib.hid (show exprB cols xs = (r == 1) by simp only [exprB, exprL, hc, hrr, HX.out]; rw [Bool.eq_iff_iff]; simp; omega)
      clear hrr hr
      go_wp2
      go_ret
      exact ⟨ret_bool (by rw [hl.out]), hg⟩
end Go.Proofs.YtjeilgogjoidjaaGreat
