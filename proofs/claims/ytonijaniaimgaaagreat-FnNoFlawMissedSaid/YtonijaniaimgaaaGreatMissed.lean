import Derived.Test.YtonijaniaimgaaaGreatBundle
import Derived.Test.YtonijaniaimgaaaGreatFlaws
/-! The law FnNoFlawMissed, walked. -/
namespace Go.Proofs.YtonijaniaimgaaaGreat
open Go.RowKit
set_option linter.unusedVariables false
set_option linter.unusedSimpArgs false
def FlawsRes4 (q : Bool) (fl : List Flaw) (w : World) (e : Ending) (w' : World) : Prop := ∃ A len cap, e = .returned (.tuple #[.slice A len cap, .bool q]) ∧ IsSl Kd.flaw w' (Fresh w.heap.size w') A len cap fl ∧ Grow w w'
theorem sFlaws_to {q : Bool} {fl : List Flaw} {A B : Option Addr} {la ca lb cb : Nat} {s : List Table} {db : List Data} (hq : dbOkB s db = q) (hf : flawsOf s db = fl) (w : World) (hs : IsSl Kd.table w (· < w.heap.size) A la ca s) (hd : IsSl Kd.data w (· < w.heap.size) B lb cb db) :
    Calls Tryz.prog 22 #[.slice A la ca, .slice B lb cb] w (FlawsRes4 q fl w) := by subst hq; subst hf; exact sFlaws_any w hs hd
theorem iFlaws_to {q : Bool} {fl : List Flaw} {A B : Option Addr} {la ca lb cb : Nat} {s : List Table} {db : List Data} (hq : dbOkB s db = q) (hf : flawsOf s db = fl) (w : World) (hs : IsSl Kd.table w (· < w.heap.size) A la ca s) (hd : IsSl Kd.data w (· < w.heap.size) B lb cb db) :
    Calls Tryz.prog 23 #[.slice A la ca, .slice B lb cb] w (FlawsRes4 q fl w) := by subst hq; subst hf; exact iFlaws_any w hs hd
/-- What KeyOf hands back, its truth under a name. -/
def KeyTo (q : Bool) (ks : List Val) (w : World) (e : Ending) (w' : World) : Prop := ∃ A len cap, e = .returned (.tuple #[.slice A len cap, .bool q]) ∧ IsSl Kd.val w' (Fresh w.heap.size w') A len cap ks ∧ Grow w w'
theorem iKeyOf_to {q : Bool} {ks : List Val} {A B : Option Addr} {la ca lb cb : Nat} {cols : List Int} {vals : List Val} (hq : kKn cols vals = q) (hk : kOf cols vals = ks) (w : World) (h : IsSl Kd.int w (· < w.heap.size) A la ca cols) (hv : IsSl Kd.val w (· < w.heap.size) B lb cb vals) (hl : la ≤ 1048576) :
    Calls Tryz.prog 42 #[.slice A la ca, .slice B lb cb] w (KeyTo q ks w) := by subst hq; subst hk; exact iKeyOf_any w h hv hl
theorem iFindRows_to {fs : List Int} {A B C D : Option Addr} {la ca lb cb lc cc ld cd : Nat} {s : List Table} {db : List Data} (table : Int) {cols : List Int} {key : List Val} (hf : findV s db table cols key = fs) (w : World) (hs : IsSl Kd.table w (· < w.heap.size) A la ca s) (hd : IsSl Kd.data w (· < w.heap.size) B lb cb db)
    (h : IsSl Kd.int w (· < w.heap.size) C lc cc cols) (hk : IsSl Kd.val w (· < w.heap.size) D ld cd key) : Calls Tryz.prog 43 #[.slice A la ca, .slice B lb cb, .int .i64 table, .slice C lc cc, .slice D ld cd] w (IntsRes fs w) := by
  subst hf; exact iFindRows_any table w hs hd h hk
theorem flaw_ne {x y : Flaw} (h : x ≠ y) : (x.kind == y.kind) = false ∨ (x.table == y.table) = false ∨ (x.id == y.id) = false := by
  obtain ⟨a, b, c⟩ := x
  obtain ⟨d, e, f⟩ := y
  simp only [beq_eq_false_iff_ne]
  by_cases h1 : a = d
  · by_cases h2 : b = e
    · by_cases h3 : c = f
      · subst h1 h2 h3; exact absurd rfl h
      · exact .inr (.inr h3)
    · exact .inr (.inl h2)
  · exact .inl h1
set_option maxRecDepth 20000 in
set_option maxHeartbeats 16000000 in
theorem law_FnNoFlawMissed (A : Option Addr) (len cap : Nat) (xs : List Int) {W : World} (h : IsSl Kd.byte W (· < W.heap.size) A len cap xs) (w : World) (hw : w = W) :
    Calls Tryz.prog 9 #[.slice A len cap] w (Ret w (.bool true)) := by
  subst hw
  have hl := Nat.le_trans h.2.1 h.2.2.1
  by_cases hbig : 1048576 < len
  · go_enter Tryz.func9, Tryz.ntmps9
    go_wp2_with fail
    refine (big_yes _ hl hbig).mono ?_
    rintro e w1 ⟨rfl, rfl⟩
    go_wp2
    go_ret
    exact ⟨rfl, Grow.refl _⟩
  go_enter Tryz.func9, Tryz.ntmps9
  go_wp2_with fail
  refine (big_no _ hl hbig).mono ?_
  rintro e w1 ⟨rfl, rfl⟩
  go_wp2_with fail
  refine (drawFlaws_any _ h).mono ?_
  rintro e w1 ⟨A1, B1, n, c, m, d, s, db, rfl, hs, hd, hn1, hn3, hm3, hb, hdb, g1⟩
  clear h
  obtain ⟨q, hq⟩ : ∃ q, dbOkB s db = q := ⟨_, rfl⟩
  obtain ⟨fl, hf⟩ : ∃ fl, flawsOf s db = fl := ⟨_, rfl⟩
  have HL := Lib.hid (show fl.length ≤ 1200 by rw [← hf]; exact flawsOf_len s db)
  have HQ := Lib.hid hq
  have HF := Lib.hid hf
  clear hq hf
  go_wp2_with fail
  refine (iFlaws_to HQ.out HF.out _ hs.fresh hd.fresh).mono ?_
  rintro e w2 ⟨A2, l2, c2, rfl, t2, g2⟩
  have G2 := g1.trans g2
  go_wp2_with fail
  refine (sFlaws_to HQ.out HF.out _ (hs.fresh.grow g2) (hd.fresh.grow g2)).mono ?_
  rintro e w3 ⟨A3, l3, c3, rfl, t3, g3⟩
  have G3 := G2.trans g3
  cases q with
  | false =>
    go_wp2
    go_ret
    exact ⟨rfl, G3⟩
  | true =>
    have hs3 := hs.fresh.grow (g2.trans g3)
    have hd3 := hd.fresh.grow (g2.trans g3)
    have tf3 := t2.fresh.grow g3
    have hl2 : l2 ≤ 1200 := by have := HL.out; rw [t2.1] at this; exact this
    have hfl := Lib.hid (t2.1)
    have hmn : m = n := by
      have := HQ.out
      simp only [dbOkB, Bool.and_eq_true] at this
      have := db_len this.2
      rw [hs.1, hd.1] at this
      exact this
    subst hmn
    clear hs hd t2 t3
    go_wp2
    go_loopw [9] (fun iv wr => ∃ i : Nat, i ≤ m ∧ iv = .int .i64 i ∧ Grow w3 wr) (fun iv _ => m - (intOf iv).toNat)
    case atStart => exact ⟨0, Nat.zero_le _, rfl, Grow.refl _⟩
    case round =>
      obtain ⟨i, hi, rfl, hg⟩ := hrel
      by_cases hlt : i < m
      · have i0 : (0 : Int) ≤ (i : Int) := Int.natCast_nonneg i
        have i1 : (i : Int) < (m : Int) := Int.ofNat_lt.mpr hlt
        obtain ⟨wo, hwo⟩ : ∃ wo, wo = wr := ⟨_, rfl⟩
        rw [← hwo] at hg ⊢
        clear hwo
        go_wp2
        go_loopw [10] (fun kv wr => ∃ k : Nat, k ≤ 60 ∧ kv = .int .i64 k ∧ Grow wo wr) (fun kv _ => 60 - (intOf kv).toNat)
        case atStart => exact ⟨0, Nat.zero_le _, rfl, Grow.refl _⟩
        case round =>
          obtain ⟨k, hk, rfl, hg'⟩ := hrel
          have hgr := hg.trans hg'
          obtain ⟨bD, oD, dd, Ar, Lr, Cr, rfl, hxd, _, hbD, cD, sr, _⟩ := data_at (hd3.grow hgr) hlt
          have HXD := Lib.hid hxd.out
          clear hxd
          have hLr : Lr ≤ 60 := by
            obtain ⟨t', ht', h1, h2, h3⟩ := db_table HQ.out HXD.out
            rw [sr.1] at h2; exact h2
          by_cases hltk : k < Lr
          · have k0 : (0 : Int) ≤ (k : Int) := Int.natCast_nonneg k
            have k1 : (k : Int) < (Lr : Int) := Int.ofNat_lt.mpr hltk
            obtain ⟨bR, oR, r, Av, Lv, Cv, rfl, hxr, _, hbR, cR0, cR1, sv, _⟩ := row_at sr hltk
            obtain ⟨bT, oT, t, T0, p0, d0, T1, p1, d1, T2, p2, d2, T3, p3, d3, T4, p4, d4, rfl, hxt, _, hbT, hnm, e0, e1, e2, e3, e4, e5, _, sk, _, _, _, _⟩ := table_at (hs3.grow hgr) hlt
            have HXR := Lib.hid hxr.out
            have HXT := Lib.hid hxt.out
            clear hxr hxt
            have hp1 : p1 ≤ 8 := by
              obtain ⟨hT, -⟩ := tab_in HQ.out HXD.out HXT.out
              have := Nat.le_trans (colsB_len (tableOkB_parts hT).1) (tableOk_cols hT).2
              rw [sk.1] at this
              exact this
            obtain ⟨wh, hwh⟩ : ∃ q, kKn t.key r.vals = q := ⟨_, rfl⟩
            obtain ⟨ks, hks⟩ : ∃ q, kOf t.key r.vals = q := ⟨_, rfl⟩
            have HWH := Lib.hid hwh
            have HKS := Lib.hid hks
            clear hwh hks e0 e1 e3 e4 e5
            go_wp2_with fail
            generalize hV : World.alloc wr _ = V
            obtain ⟨gV, sV, bV⟩ := boxedB hV
            clear hV
            have kV := (free_of bV).1 1
            simp only [List.getElem?_toArray, List.getElem?_cons_succ, List.getElem?_cons_zero] at kV
            replace bV := Lib.hid bV
            have e2V := (gV.same _ _ hbT).trans e2
            have hbTV := Nat.lt_of_lt_of_le hbT gV.size
            have SK := Lib.hid (sk.grow gV)
            have SV := Lib.hid (sv.grow gV)
            clear sk sv e2
            refine wp_region_held_drew (S := (fun w' => Grow V w' ∧ Same V w')) (by kernel_rfl) (by exact Grow.both (by repeat (with_reducible first | exact Grow.refl _ | assumption | refine Grow.drew ?_ | refine Grow.alloc ?_ _ | refine Grow.set ?_ (by first | exact Nat.le_refl _ | (simp; done) | (simp; omega) | omega) _ | exact And.left (by assumption) | refine Grow.trans ?_ (by assumption)))) (fun hHeld => ?_)
            ((refine tk 0 71 rfl rfl (v := ?_) ?_ ?_; rotate_left 1; (focus (intro w hSw; (try dsimp only at hSw); go_simp; (try with_reducible rfl); done)); all_goals (try simp only [Act.put, List.setIfInBounds_toArray, List.set_cons_zero, List.set_cons_succ])); (refine tk 1 72 rfl rfl (v := ?_) ?_ ?_; rotate_left 1; (focus (intro w hSw; (try dsimp only at hSw); go_simp; (try with_reducible rfl); done)); all_goals (try simp only [Act.put, List.setIfInBounds_toArray, List.set_cons_zero, List.set_cons_succ])); (refine tk 2 73 rfl rfl (v := ?_) ?_ ?_; rotate_left 1; (focus (intro w hSw; (try dsimp only at hSw); go_simp; (try with_reducible rfl); done)); all_goals (try simp only [Act.put, List.setIfInBounds_toArray, List.set_cons_zero, List.set_cons_succ])); (refine tk 3 74 rfl rfl (v := ?_) ?_ ?_; rotate_left 1; (focus (intro w hSw; (try dsimp only at hSw); go_simp; (try with_reducible rfl); done)); all_goals (try simp only [Act.put, List.setIfInBounds_toArray, List.set_cons_zero, List.set_cons_succ])); (refine tk 4 75 rfl rfl (v := ?_) ?_ ?_; rotate_left 1; (focus (intro w hSw; (try dsimp only at hSw); go_simp; (try with_reducible rfl); done)); all_goals (try simp only [Act.put, List.setIfInBounds_toArray, List.set_cons_zero, List.set_cons_succ])); (refine tk 5 76 rfl rfl (v := ?_) ?_ ?_; rotate_left 1; (focus (intro w hSw; (try dsimp only at hSw); go_simp; (try with_reducible rfl); done)); all_goals (try simp only [Act.put, List.setIfInBounds_toArray, List.set_cons_zero, List.set_cons_succ])); (refine tk 6 77 rfl rfl (v := ?_) ?_ ?_; rotate_left 1; (focus (intro w hSw; (try dsimp only at hSw); go_simp; (try with_reducible rfl); done)); all_goals (try simp only [Act.put, List.setIfInBounds_toArray, List.set_cons_zero, List.set_cons_succ])))
            (refine wpAnyH_ready (rs := [7]) (by kernel_rfl) (by simp) ?_; refine AllReadyH.cons rfl (fun K hK => ?_) AllReadyH.nil; go_simp; (go_at_call 42; refine (iKeyOf_to HWH.out HKS.out _ (SK.out.grow (And.left (by assumption))) (SV.out.grow (And.left (by assumption))) (by omega)).mono ?_; rintro e wX ⟨AK, lK, cK, rfl, tK, hbX⟩); refine hK.out _ _ (by exact Grow.both (by repeat (with_reducible first | exact Grow.refl _ | assumption | refine Grow.drew ?_ | refine Grow.alloc ?_ _ | refine Grow.set ?_ (by first | exact Nat.le_refl _ | (simp; done) | (simp; omega) | omega) _ | exact And.left (by assumption) | refine Grow.trans ?_ (by assumption)))) (fun hHeld => ?_); clear hK K; (try refine held_put 78 rfl ?_); (try simp only [Act.put, List.setIfInBounds_toArray, List.set_cons_zero, List.set_cons_succ]))
            ((refine tk 8 70 rfl rfl (v := ?_) ?_ ?_; rotate_left 1; (focus (intro w hSw; (try dsimp only at hSw); go_simp; (try with_reducible rfl); done)); all_goals (try simp only [Act.put, List.setIfInBounds_toArray, List.set_cons_zero, List.set_cons_succ])))
            ((refine tk 9 79 rfl rfl (v := ?_) ?_ ?_; rotate_left 1; (focus (intro w hSw; (try dsimp only at hSw); go_simp; (try with_reducible rfl); done)); all_goals (try simp only [Act.put, List.setIfInBounds_toArray, List.set_cons_zero, List.set_cons_succ])); (refine tk 10 80 rfl rfl (v := ?_) ?_ ?_; rotate_left 1; (focus (intro w hSw; (try dsimp only at hSw); go_simp; (try with_reducible rfl); done)); all_goals (try simp only [Act.put, List.setIfInBounds_toArray, List.set_cons_zero, List.set_cons_succ])))
            ((refine tk 11 12 rfl rfl (v := ?_) ?_ ?_; rotate_left 1; (focus (intro w hSw; (try dsimp only at hSw); go_simp; (try with_reducible rfl); done)); all_goals (try simp only [Act.put, List.setIfInBounds_toArray, List.set_cons_zero, List.set_cons_succ])); (refine tk 12 13 rfl rfl (v := ?_) ?_ ?_; rotate_left 1; (focus (intro w hSw; (try dsimp only at hSw); go_simp; (try with_reducible rfl); done)); all_goals (try simp only [Act.put, List.setIfInBounds_toArray, List.set_cons_zero, List.set_cons_succ])))
            obtain ⟨gX, _⟩ : Grow V wX ∧ Same V wX := by assumption
            refine wpAnyH_done (by kernel_rfl) ?_ _
            cases wh with
            | false =>
              have HM : Hid ((⟨1, i, r.id⟩ : Flaw) ∈ fl) := Lib.hid (by rw [← HF.out]; exact missed_null HQ.out HXD.out HXT.out (List.mem_of_getElem? HXR.out) HWH.out)
              obtain ⟨wb, hwb⟩ : ∃ wb, wb = wX := ⟨_, rfl⟩
              have gK : Grow V wb := by rw [hwb]; exact gX
              rw [← hwb]
              clear hwb
              go_wp2
              go_loopw [15, 16] (fun bv jv w5 => ∃ (j : Nat) (b : Bool), j ≤ l2 ∧ jv = .int .i64 j ∧ bv = .bool b ∧ Grow wb w5 ∧ (∀ p x, p < j → fl[p]? = some x → x = ⟨1, i, r.id⟩ → b = true)) (fun _ jv _ => l2 - (intOf jv).toNat)
              case atStart => exact ⟨0, false, Nat.zero_le _, rfl, rfl, Grow.refl _, fun p x hp => absurd hp (Nat.not_lt_zero _)⟩
              case round =>
                obtain ⟨j, b, hj, rfl, rfl, hg5, hall⟩ := hrel
                have hgV5 : Grow V wr := gK.trans hg5
                have HA := Lib.hid hall
                clear hall
                by_cases hltj : j < l2
                · have j0 : (0 : Int) ≤ (j : Int) := Int.natCast_nonneg j
                  have j1 : (j : Int) < (l2 : Int) := Int.ofNat_lt.mpr hltj
                  obtain ⟨bF, oF, x, rfl, hxx, _, hbF, f0, f1, f2, _⟩ := flaw_at (tf3.grow (hgr.trans (gV.trans hgV5))) hltj
                  have HXX := Lib.hid hxx.out
                  clear hxx
                  have v0 := (free_of ((hgV5.block sV).trans bV.out)).1 0
                  simp only [List.getElem?_toArray, List.getElem?_cons_zero] at v0
                  have sV5 := Nat.lt_of_lt_of_le sV hgV5.size
                  cases b with
                  | true =>
                    go_wp2
                    refine wp_region_held_drew (S := (fun w' => Grow wr w' ∧ Same wr w')) (by kernel_rfl) (by exact Grow.both (by repeat (with_reducible first | exact Grow.refl _ | assumption | refine Grow.drew ?_ | refine Grow.alloc ?_ _ | refine Grow.set ?_ (by first | exact Nat.le_refl _ | (simp; done) | (simp; omega) | omega) _ | exact And.left (by assumption) | refine Grow.trans ?_ (by assumption)))) (fun hHeld => ?_)
                    ((refine tk 0 100 rfl rfl (v := ?_) ?_ ?_; rotate_left 1; (focus (intro w hSw; (try dsimp only at hSw); go_simp; (try with_reducible rfl); done)); all_goals (try simp only [Act.put, List.setIfInBounds_toArray, List.set_cons_zero, List.set_cons_succ])); (refine tk 1 101 rfl rfl (v := ?_) ?_ ?_; rotate_left 1; (focus (intro w hSw; (try dsimp only at hSw); go_simp; (try with_reducible rfl); done)); all_goals (try simp only [Act.put, List.setIfInBounds_toArray, List.set_cons_zero, List.set_cons_succ])))
                    (refine sk 2 102 rfl rfl ?_; (try simp only [Act.put, List.setIfInBounds_toArray, List.set_cons_zero, List.set_cons_succ]); refine sk 3 103 rfl rfl ?_; (try simp only [Act.put, List.setIfInBounds_toArray, List.set_cons_zero, List.set_cons_succ]); refine sk 4 104 rfl rfl ?_; (try simp only [Act.put, List.setIfInBounds_toArray, List.set_cons_zero, List.set_cons_succ]); refine sk 5 105 rfl rfl ?_; (try simp only [Act.put, List.setIfInBounds_toArray, List.set_cons_zero, List.set_cons_succ]); refine sk 6 106 rfl rfl ?_; (try simp only [Act.put, List.setIfInBounds_toArray, List.set_cons_zero, List.set_cons_succ]); refine sk 7 107 rfl rfl ?_; (try simp only [Act.put, List.setIfInBounds_toArray, List.set_cons_zero, List.set_cons_succ]); refine sk 8 108 rfl rfl ?_; (try simp only [Act.put, List.setIfInBounds_toArray, List.set_cons_zero, List.set_cons_succ]); refine sk 9 109 rfl rfl ?_; (try simp only [Act.put, List.setIfInBounds_toArray, List.set_cons_zero, List.set_cons_succ]); refine sk 10 110 rfl rfl ?_; (try simp only [Act.put, List.setIfInBounds_toArray, List.set_cons_zero, List.set_cons_succ]); refine sk 11 111 rfl rfl ?_; (try simp only [Act.put, List.setIfInBounds_toArray, List.set_cons_zero, List.set_cons_succ]))
                    ((refine tk 12 112 rfl rfl (v := ?_) ?_ ?_; rotate_left 1; (focus (intro w hSw; (try dsimp only at hSw); go_simp; (try with_reducible rfl); done)); all_goals (try simp only [Act.put, List.setIfInBounds_toArray, List.set_cons_zero, List.set_cons_succ])))
                    ((refine tk 13 15 rfl rfl (v := ?_) ?_ ?_; rotate_left 1; (focus (intro w hSw; (try dsimp only at hSw); go_simp; (try with_reducible rfl); done)); all_goals (try simp only [Act.put, List.setIfInBounds_toArray, List.set_cons_zero, List.set_cons_succ])))
                    refine wpAnyH_done (by kernel_rfl) ?_ _
                    go_wp2
                    go_roundw
                    case rel => exact ⟨j + 1, true, by omega, by go_num, rfl, hg5.drew, fun _ _ _ _ _ => rfl⟩
                    case measure => simp [intOf]; omega
                  | false =>
                    by_cases hx : x = ⟨1, i, r.id⟩
                    · subst hx
                      dsimp only at f0 f1 f2
                      go_wp2
                      go_region_held3 (fun w' => Grow wr w' ∧ Same wr w') (exact Grow.both (by repeat (with_reducible first | exact Grow.refl _ | assumption | refine Grow.drew ?_ | refine Grow.alloc ?_ _ | refine Grow.set ?_ (by first | exact Nat.le_refl _ | (simp; done) | (simp; omega) | omega) _ | exact And.left (by assumption) | refine Grow.trans ?_ (by assumption)))) (skip)
                      go_wp2
                      go_roundw
                      case rel => exact ⟨j + 1, true, by omega, by go_num, rfl, hg5.drew, fun _ _ _ _ _ => rfl⟩
                      case measure => simp [intOf]; omega
                    · have hno := flaw_ne hx
                      dsimp only at hno
                      rcases hno with hno | hno | hno
                      all_goals
                        go_wp2
                        go_region_held3 (fun w' => Grow wr w' ∧ Same wr w') (exact Grow.both (by repeat (with_reducible first | exact Grow.refl _ | assumption | refine Grow.drew ?_ | refine Grow.alloc ?_ _ | refine Grow.set ?_ (by first | exact Nat.le_refl _ | (simp; done) | (simp; omega) | omega) _ | exact And.left (by assumption) | refine Grow.trans ?_ (by assumption)))) (skip)
                        go_wp2
                        go_roundw
                        case rel => exact ⟨j + 1, false, by omega, by go_num, rfl, hg5.drew, fun p y hp hy he => by
                          rcases Nat.lt_succ_iff_lt_or_eq.mp hp with h1 | rfl
                          · exact HA.out p y h1 hy he
                          · rw [HXX.out] at hy; cases hy; exact absurd he hx⟩
                        case measure => simp [intOf]; omega
                · obtain rfl : j = l2 := by omega
                  obtain ⟨p, hp, hpe⟩ := List.getElem_of_mem HM.out
                  have hbt : b = true := HA.out p _ (by have := hfl.out; omega) (List.getElem?_eq_getElem hp) hpe
                  subst hbt
                  go_wp2
                  go_roundw
                  case rel => exact ⟨k + 1, by omega, by go_num, hg'.trans (gV.trans hgV5)⟩
                  case measure => simp [intOf]; omega
            | true =>
              obtain ⟨fs, hfs⟩ : ∃ q, findV s db i t.key ks = q := ⟨_, rfl⟩
              have HFS := Lib.hid hfs
              clear hfs
              have hgX := hgr.trans (gV.trans gX)
              have e2X := (gX.same _ _ hbTV).trans e2V
              have hbTX := Nat.lt_of_lt_of_le hbTV gX.size
              go_wp2_with fail
              refine (iFindRows_to i HFS.out _ (hs3.grow hgX) (hd3.grow hgX) (SK.out.grow gX) tK.fresh).mono ?_
              rintro e wY ⟨AY, lY, cY, rfl, tY, gY⟩
              by_cases hlY : lY < 2
              · have hlY' : (lY : Int) < 2 := by omega
                go_wp2
                go_roundw
                case rel => exact ⟨k + 1, by omega, by go_num, hg'.trans (gV.trans (gX.trans gY))⟩
                case measure => simp [intOf]; omega
              · have hlY' : ¬ ((lY : Int) < 2) := by omega
                have HM : Hid ((⟨3, i, r.id⟩ : Flaw) ∈ fl) := Lib.hid (by rw [← HF.out]; exact missed_twice HQ.out HXD.out HXT.out (List.mem_of_getElem? HXR.out) HWH.out (by rw [HKS.out, HFS.out, tY.1]; omega))
                obtain ⟨wb, hwb⟩ : ∃ wb, wb = wY := ⟨_, rfl⟩
                have gK : Grow V wb := by rw [hwb]; exact gX.trans gY
                rw [← hwb]
                clear hwb
                go_wp2
                go_loopw [15, 16] (fun bv jv w5 => ∃ (j : Nat) (b : Bool), j ≤ l2 ∧ jv = .int .i64 j ∧ bv = .bool b ∧ Grow wb w5 ∧ (∀ p x, p < j → fl[p]? = some x → x = ⟨3, i, r.id⟩ → b = true)) (fun _ jv _ => l2 - (intOf jv).toNat)
                case atStart => exact ⟨0, false, Nat.zero_le _, rfl, rfl, Grow.refl _, fun p x hp => absurd hp (Nat.not_lt_zero _)⟩
                case round =>
                  obtain ⟨j, b, hj, rfl, rfl, hg5, hall⟩ := hrel
                  have hgV5 : Grow V wr := gK.trans hg5
                  have HA := Lib.hid hall
                  clear hall
                  by_cases hltj : j < l2
                  · have j0 : (0 : Int) ≤ (j : Int) := Int.natCast_nonneg j
                    have j1 : (j : Int) < (l2 : Int) := Int.ofNat_lt.mpr hltj
                    obtain ⟨bF, oF, x, rfl, hxx, _, hbF, f0, f1, f2, _⟩ := flaw_at (tf3.grow (hgr.trans (gV.trans hgV5))) hltj
                    have HXX := Lib.hid hxx.out
                    clear hxx
                    have v0 := (free_of ((hgV5.block sV).trans bV.out)).1 0
                    simp only [List.getElem?_toArray, List.getElem?_cons_zero] at v0
                    have sV5 := Nat.lt_of_lt_of_le sV hgV5.size
                    cases b with
                    | true =>
                      go_wp2
                      refine wp_region_held_drew (S := (fun w' => Grow wr w' ∧ Same wr w')) (by kernel_rfl) (by exact Grow.both (by repeat (with_reducible first | exact Grow.refl _ | assumption | refine Grow.drew ?_ | refine Grow.alloc ?_ _ | refine Grow.set ?_ (by first | exact Nat.le_refl _ | (simp; done) | (simp; omega) | omega) _ | exact And.left (by assumption) | refine Grow.trans ?_ (by assumption)))) (fun hHeld => ?_)
                      ((refine tk 0 100 rfl rfl (v := ?_) ?_ ?_; rotate_left 1; (focus (intro w hSw; (try dsimp only at hSw); go_simp; (try with_reducible rfl); done)); all_goals (try simp only [Act.put, List.setIfInBounds_toArray, List.set_cons_zero, List.set_cons_succ])); (refine tk 1 101 rfl rfl (v := ?_) ?_ ?_; rotate_left 1; (focus (intro w hSw; (try dsimp only at hSw); go_simp; (try with_reducible rfl); done)); all_goals (try simp only [Act.put, List.setIfInBounds_toArray, List.set_cons_zero, List.set_cons_succ])))
                      (refine sk 2 102 rfl rfl ?_; (try simp only [Act.put, List.setIfInBounds_toArray, List.set_cons_zero, List.set_cons_succ]); refine sk 3 103 rfl rfl ?_; (try simp only [Act.put, List.setIfInBounds_toArray, List.set_cons_zero, List.set_cons_succ]); refine sk 4 104 rfl rfl ?_; (try simp only [Act.put, List.setIfInBounds_toArray, List.set_cons_zero, List.set_cons_succ]); refine sk 5 105 rfl rfl ?_; (try simp only [Act.put, List.setIfInBounds_toArray, List.set_cons_zero, List.set_cons_succ]); refine sk 6 106 rfl rfl ?_; (try simp only [Act.put, List.setIfInBounds_toArray, List.set_cons_zero, List.set_cons_succ]); refine sk 7 107 rfl rfl ?_; (try simp only [Act.put, List.setIfInBounds_toArray, List.set_cons_zero, List.set_cons_succ]); refine sk 8 108 rfl rfl ?_; (try simp only [Act.put, List.setIfInBounds_toArray, List.set_cons_zero, List.set_cons_succ]); refine sk 9 109 rfl rfl ?_; (try simp only [Act.put, List.setIfInBounds_toArray, List.set_cons_zero, List.set_cons_succ]); refine sk 10 110 rfl rfl ?_; (try simp only [Act.put, List.setIfInBounds_toArray, List.set_cons_zero, List.set_cons_succ]); refine sk 11 111 rfl rfl ?_; (try simp only [Act.put, List.setIfInBounds_toArray, List.set_cons_zero, List.set_cons_succ]))
                      ((refine tk 12 112 rfl rfl (v := ?_) ?_ ?_; rotate_left 1; (focus (intro w hSw; (try dsimp only at hSw); go_simp; (try with_reducible rfl); done)); all_goals (try simp only [Act.put, List.setIfInBounds_toArray, List.set_cons_zero, List.set_cons_succ])))
                      ((refine tk 13 15 rfl rfl (v := ?_) ?_ ?_; rotate_left 1; (focus (intro w hSw; (try dsimp only at hSw); go_simp; (try with_reducible rfl); done)); all_goals (try simp only [Act.put, List.setIfInBounds_toArray, List.set_cons_zero, List.set_cons_succ])))
                      refine wpAnyH_done (by kernel_rfl) ?_ _
                      go_wp2
                      go_roundw
                      case rel => exact ⟨j + 1, true, by omega, by go_num, rfl, hg5.drew, fun _ _ _ _ _ => rfl⟩
                      case measure => simp [intOf]; omega
                    | false =>
                      by_cases hx : x = ⟨3, i, r.id⟩
                      · subst hx
                        dsimp only at f0 f1 f2
                        go_wp2
                        go_region_held3 (fun w' => Grow wr w' ∧ Same wr w') (exact Grow.both (by repeat (with_reducible first | exact Grow.refl _ | assumption | refine Grow.drew ?_ | refine Grow.alloc ?_ _ | refine Grow.set ?_ (by first | exact Nat.le_refl _ | (simp; done) | (simp; omega) | omega) _ | exact And.left (by assumption) | refine Grow.trans ?_ (by assumption)))) (skip)
                        go_wp2
                        go_roundw
                        case rel => exact ⟨j + 1, true, by omega, by go_num, rfl, hg5.drew, fun _ _ _ _ _ => rfl⟩
                        case measure => simp [intOf]; omega
                      · have hno := flaw_ne hx
                        dsimp only at hno
                        rcases hno with hno | hno | hno
                        all_goals
                          go_wp2
                          go_region_held3 (fun w' => Grow wr w' ∧ Same wr w') (exact Grow.both (by repeat (with_reducible first | exact Grow.refl _ | assumption | refine Grow.drew ?_ | refine Grow.alloc ?_ _ | refine Grow.set ?_ (by first | exact Nat.le_refl _ | (simp; done) | (simp; omega) | omega) _ | exact And.left (by assumption) | refine Grow.trans ?_ (by assumption)))) (skip)
                          go_wp2
                          go_roundw
                          case rel => exact ⟨j + 1, false, by omega, by go_num, rfl, hg5.drew, fun p y hp hy he => by
                            rcases Nat.lt_succ_iff_lt_or_eq.mp hp with h1 | rfl
                            · exact HA.out p y h1 hy he
                            · rw [HXX.out] at hy; cases hy; exact absurd he hx⟩
                          case measure => simp [intOf]; omega
                  · obtain rfl : j = l2 := by omega
                    obtain ⟨p, hp, hpe⟩ := List.getElem_of_mem HM.out
                    have hbt : b = true := HA.out p _ (by have := hfl.out; omega) (List.getElem?_eq_getElem hp) hpe
                    subst hbt
                    go_wp2
                    go_roundw
                    case rel => exact ⟨k + 1, by omega, by go_num, hg'.trans (gV.trans hgV5)⟩
                    case measure => simp [intOf]; omega
          · go_wp2
            go_roundw
            case rel => exact ⟨i + 1, by omega, by go_num, hgr⟩
            case measure => simp [intOf]; omega
      · go_wp2
        go_ret
        exact ⟨rfl, G3.trans hg⟩
end Go.Proofs.YtonijaniaimgaaaGreat
