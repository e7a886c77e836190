import Derived.Test.YtonijaniaimgaaaFindLaw
import Derived.Test.YtonijaniaimgaaaKeyOf
/-! The law FnFindRows, walked. -/
namespace Go.Proofs.Ytonijaniaimgaaa
open Go.RowKit
set_option linter.unusedVariables false
set_option linter.unusedSimpArgs false
/-- What KeyOf hands back, its truth under a name. -/
def KeyTo (q : Bool) (ks : List Val) (w : World) (e : Ending) (w' : World) : Prop := ∃ A len cap, e = .returned (.tuple #[.slice A len cap, .bool q]) ∧ IsSl Kd.val w' (Fresh w.heap.size w') A len cap ks ∧ Grow w w'
theorem iKeyOf_to {q : Bool} {ks : List Val} {A B : Option Addr} {la ca lb cb : Nat} {cols : List Int} {vals : List Val} (hq : kKn cols vals = q) (hk : kOf cols vals = ks) (w : World) (h : IsSl Kd.int w (· < w.heap.size) A la ca cols) (hv : IsSl Kd.val w (· < w.heap.size) B lb cb vals) (hl : la ≤ 1048576) :
    Calls Try.prog 46 #[.slice A la ca, .slice B lb cb] w (KeyTo q ks w) := by subst hq; subst hk; exact iKeyOf_any w h hv hl
theorem sKeyOf_to {q : Bool} {ks : List Val} {A B : Option Addr} {la ca lb cb : Nat} {cols : List Int} {vals : List Val} (hq : kKn cols vals = q) (hk : kOf cols vals = ks) (w : World) (h : IsSl Kd.int w (· < w.heap.size) A la ca cols) (hv : IsSl Kd.val w (· < w.heap.size) B lb cb vals) (hl : la ≤ 1048576) :
    Calls Try.prog 47 #[.slice A la ca, .slice B lb cb] w (KeyTo q ks w) := by subst hq; subst hk; exact sKeyOf_any w h hv hl
theorem sDbOkR_eq {A B : Option Addr} {la ca lb cb : Nat} {s : List Table} {db : List Data} {r : Bool} (hr : dbOkB s db = r) (w : World) (hs : IsSl Kd.table w (· < w.heap.size) A la ca s) (hd : IsSl Kd.data w (· < w.heap.size) B lb cb db) :
    Calls Try.prog 49 #[.slice A la ca, .slice B lb cb] w (Ret w (.bool r)) := by subst hr; exact sDbOk_any w hs hd
theorem sameV_refl (xs : List Val) : sameV xs xs = true := by
  simp only [sameV, decide_true, Bool.true_and, allIx, List.all_eq_true, List.mem_range]
  intro j hj
  simp [sameP, List.getElem?_eq_getElem hj, eqV]
set_option maxRecDepth 20000 in
set_option maxHeartbeats 16000000 in
theorem law_FnFindRows (A : Option Addr) (len cap : Nat) (xs : List Int) {W : World} (h : IsSl Kd.byte W (· < W.heap.size) A len cap xs) (w : World) (hw : w = W) :
    Calls Try.prog 8 #[.slice A len cap] w (Ret w (.bool true)) := by
  subst hw
  have hl := Nat.le_trans h.2.1 h.2.2.1
  by_cases hbig : 1048576 < len
  · go_enter Try.func8, Try.ntmps8
    go_wp2_with fail
    refine (big_yes _ hl hbig).mono ?_
    rintro e w1 ⟨rfl, rfl⟩
    go_wp2
    go_ret
    exact ⟨rfl, Grow.refl _⟩
  go_enter Try.func8, Try.ntmps8
  go_wp2_with fail
  refine (big_no _ hl hbig).mono ?_
  rintro e w1 ⟨rfl, rfl⟩
  go_wp2_with fail
  refine (drawFindRows_any _ h).mono ?_
  rintro e w1 ⟨A1, B1, C1, D1, n, c, m, d, e1, e2, s, db, z, y, v, rfl, hs, hd, hc, hk, hn3, g1⟩
  obtain ⟨fs, hfs⟩ : ∃ fs, findV s db z [y] [v] = fs := ⟨_, rfl⟩
  have HF := Lib.hid hfs
  clear hfs
  go_wp2_with fail
  refine (iFind_to z HF.out _ hs.fresh hd.fresh hc.fresh hk.fresh).mono ?_
  rintro e w2 ⟨A2, l2, c2, rfl, t2, g2⟩
  have G2 := g1.trans g2
  go_wp2_with fail
  refine (drawKeyOf_any _ (h.grow G2)).mono ?_
  rintro e w3 ⟨B3, C3, n3, c3, m3, d3, ys, vs, rfl, hys, hvs, hn32, g3⟩
  clear h
  have G3 := G2.trans g3
  obtain ⟨q1, hq1⟩ : ∃ q, kKn ys vs = q := ⟨_, rfl⟩
  obtain ⟨k1, hk1⟩ : ∃ q, kOf ys vs = q := ⟨_, rfl⟩
  have HQ1 := Lib.hid hq1
  have HK1 := Lib.hid hk1
  clear hq1 hk1
  go_wp2_with fail
  refine (iKeyOf_to HQ1.out HK1.out _ hys.fresh hvs.fresh (by omega)).mono ?_
  rintro e w4 ⟨A4, l4, c4, rfl, t4, g4⟩
  go_wp2_with fail
  refine (sKeyOf_to HQ1.out HK1.out _ (hys.fresh.grow g4) (hvs.fresh.grow g4) (by omega)).mono ?_
  rintro e w5 ⟨A5, l5, c5, rfl, t5, g5⟩
  have g25 : Grow w2 w5 := g3.trans (g4.trans g5)
  have g15 : Grow w1 w5 := g2.trans g25
  have G5 := g1.trans g15
  have hs5 := hs.fresh.grow g15
  have hd5 := hd.fresh.grow g15
  have hc5 := hc.fresh.grow g15
  have hk5 := hk.fresh.grow g15
  have tf5 := t2.fresh.grow g25
  have hl2 : fs.length = l2 := t2.1
  clear hs hd hc hk hys hvs t2
  go_wp2_with fail
  refine (sFind_to z HF.out _ hs5 hd5 hc5 hk5).mono ?_
  rintro e w6 ⟨A6, l6, c6, rfl, t6, g6⟩
  go_wp2_with fail
  refine (sameInts_same _ (tf5.grow g6) t6.fresh).mono ?_
  rintro e w7 ⟨rfl, g7⟩
  go_wp2_with fail
  refine (sameVals_eq (sameV_refl k1) _ ((t4.fresh.grow g5).grow (g6.trans g7)) (t5.fresh.grow (g6.trans g7))).mono ?_
  rintro e w8 ⟨rfl, g8⟩
  have g58 := g6.trans (g7.trans g8)
  have G8 := G5.trans g58
  clear t4 t5 t6
  obtain ⟨q, hq⟩ : ∃ q, dbOkB s db = q := ⟨_, rfl⟩
  have HQ := Lib.hid hq
  clear hq
  go_wp2_with fail
  refine (sDbOkR_eq HQ.out _ (hs5.grow g58) (hd5.grow g58)).mono ?_
  rintro e w9 ⟨rfl, g9⟩
  have G9 := G8.trans g9
  have g59 := g58.trans g9
  have hbn : (q = false ∨ z < 0 ∨ (n : Int) ≤ z) ∨ (q = true ∧ 0 ≤ z ∧ z < (n : Int)) := by
    cases q with
    | false => exact .inl (.inl rfl)
    | true =>
      by_cases h1 : z < 0
      · exact .inl (.inr (.inl h1))
      · by_cases h2 : (n : Int) ≤ z
        · exact .inl (.inr (.inr h2))
        · exact .inr ⟨rfl, by omega, by omega⟩
  have hsn : s.length = n := hs5.1
  rcases hbn with hbn | ⟨rfl, hz0, hz1⟩
  · have hnil : fs = [] := by rw [← HF.out]; exact find_none (by rcases hbn with h1 | h1 | h1; exact .inl (HQ.out.trans h1); exact .inr (.inl h1); exact .inr (.inr (by omega)))
    have hl0 : l2 = 0 := by rw [← hl2, hnil]; rfl
    subst hl0
    rcases hbn with rfl | hb | hb
    · go_wp2
      go_ret
      exact ⟨rfl, G9⟩
    · cases q
      · go_wp2
        go_ret
        exact ⟨rfl, G9⟩
      · go_wp2
        go_ret
        exact ⟨rfl, G9⟩
    · cases q
      · go_wp2
        go_ret
        exact ⟨rfl, G9⟩
      · by_cases hz : z < 0
        · go_wp2
          go_ret
          exact ⟨rfl, G9⟩
        · go_wp2
          go_ret
          exact ⟨rfl, G9⟩
  · obtain ⟨zn, rfl⟩ : ∃ zn : Nat, z = (zn : Int) := ⟨z.toNat, by omega⟩
    obtain ⟨dd, t, hdd, htt, hrs, htb⟩ := isTab_at HQ.out hz0 (by omega)
    have hmn : m = n := by
      have := HQ.out
      simp only [dbOkB, Bool.and_eq_true] at this
      have := db_len this.2
      rw [hs5.1, hd5.1] at this
      exact this
    have hzm : zn < m := by omega
    have hN : ¬ (n ≤ zn) := by omega
    have hN0 : ¬ ((zn : Int) < 0) := by omega
    have hz1' : (zn : Int) < (m : Int) := by omega
    simp only [Int.toNat_natCast] at hdd htt
    have HD := Lib.hid hdd
    have hrl : dd.rows.length ≤ 60 := by simp only [rowsB, Bool.and_eq_true, decide_eq_true_eq] at hrs; exact hrs.1
    clear hdd htt
    have hs9 := hs5.grow g59
    have hd9 := hd5.grow g59
    have hc9 := hc5.grow g59
    have hk9 := hk5.grow g59
    have tf9 := tf5.grow g59
    clear hs5 hd5 hc5 hk5 tf5
    go_wp2
    go_loopw [15] (fun iv wr => ∃ i : Nat, i ≤ 60 ∧ iv = .int .i64 i ∧ Grow w9 wr) (fun iv _ => 60 - (intOf iv).toNat)
    case atStart => exact ⟨0, Nat.zero_le _, rfl, Grow.refl _⟩
    case round =>
      obtain ⟨i, hi, rfl, hg⟩ := hrel
      obtain ⟨bD, oD, d2, Ar, Lr, Cr, rfl, hxd, _, hbD, cD, sr, _⟩ := data_at (hd9.grow hg) hzm
      obtain rfl : d2 = dd := Option.some.inj (hxd.out.symm.trans HD.out)
      have hLr : Lr ≤ 60 := by rw [← sr.1]; exact hrl
      clear hxd
      by_cases hlt : i < Lr
      · have k0 : (0 : Int) ≤ (i : Int) := Int.natCast_nonneg i
        have k1' : (i : Int) < (Lr : Int) := Int.ofNat_lt.mpr hlt
        obtain ⟨bR, oR, r, Av, Lv, Cv, rfl, hxr, _, hbR, cR0, cR1, sv, _⟩ := row_at sr hlt
        have hmem := List.mem_of_getElem? hxr.out
        have hlaw := find_has (s := s) (t := t) (key := [v]) (c := y) HQ.out hz0 (by omega) (by simpa using HD.out) hmem
        obtain ⟨wh, hwh⟩ : ∃ q, kKn [y] r.vals = q := ⟨_, rfl⟩
        obtain ⟨ks, hks⟩ : ∃ q, kOf [y] r.vals = q := ⟨_, rfl⟩
        obtain ⟨sm, hsm⟩ : ∃ q, sameV ks [v] = q := ⟨_, rfl⟩
        have HWH := Lib.hid hwh
        have HKS := Lib.hid hks
        have HSM := Lib.hid hsm
        have HHAS : Hid (fs.any (· == r.id) = (wh && sm)) := Lib.hid (by rw [← HF.out, hlaw, HWH.out, HKS.out, HSM.out])
        clear hwh hks hsm hlaw hxr hmem
        go_wp2_with fail
        generalize hV : World.alloc wr _ = V
        obtain ⟨gV, sV, bV⟩ := boxedB hV
        clear hV
        have gVw := hg.trans gV
        have kV0 := (free_of bV).1 0
        simp only [List.getElem?_toArray, List.getElem?_cons_zero] at kV0
        have bV' := Lib.hid bV
        clear bV
        refine (iKeyOf_to HWH.out HKS.out _ (hc9.grow gVw) (sv.grow gV) (by decide)).mono ?_
        rintro e w10 ⟨A10, l10, c10, rfl, t10, g10⟩
        have kV1 := (free_of ((g10.block sV).trans bV'.out)).1 0
        simp only [List.getElem?_toArray, List.getElem?_cons_zero] at kV1
        have sV1 := Nat.lt_of_lt_of_le sV g10.size
        go_wp2_with fail
        cases wh with
        | false =>
          have HH : Hid (fs.any (· == r.id) = false) := Lib.hid (by rw [HHAS.out]; rfl)
          refine (hasInt_eq r.id HH.out _ (tf9.grow (gVw.trans g10))).mono ?_
          rintro e w11 ⟨rfl, g11⟩
          go_wp2
          go_roundw
          case rel => exact ⟨i + 1, by omega, by go_num, gVw.trans (g10.trans g11)⟩
          case measure => simp [intOf]; omega
        | true =>
          cases sm with
          | false =>
            have HH : Hid (fs.any (· == r.id) = false) := Lib.hid (by rw [HHAS.out]; rfl)
            refine (hasInt_eq r.id HH.out _ (tf9.grow (gVw.trans g10))).mono ?_
            rintro e w11 ⟨rfl, g11⟩
            go_wp2_with fail
            refine (sameVals_eq HSM.out _ (t10.fresh.grow g11) (hk9.grow (gVw.trans (g10.trans g11)))).mono ?_
            rintro e w12 ⟨rfl, g12⟩
            go_wp2
            go_roundw
            case rel => exact ⟨i + 1, by omega, by go_num, gVw.trans (g10.trans (g11.trans g12))⟩
            case measure => simp [intOf]; omega
          | true =>
            have HH : Hid (fs.any (· == r.id) = true) := Lib.hid (by rw [HHAS.out]; rfl)
            refine (hasInt_eq r.id HH.out _ (tf9.grow (gVw.trans g10))).mono ?_
            rintro e w11 ⟨rfl, g11⟩
            go_wp2_with fail
            refine (sameVals_eq HSM.out _ (t10.fresh.grow g11) (hk9.grow (gVw.trans (g10.trans g11)))).mono ?_
            rintro e w12 ⟨rfl, g12⟩
            go_wp2
            go_roundw
            case rel => exact ⟨i + 1, by omega, by go_num, gVw.trans (g10.trans (g11.trans g12))⟩
            case measure => simp [intOf]; omega
      · go_wp2
        go_ret
        exact ⟨rfl, G9.trans hg⟩
end Go.Proofs.Ytonijaniaimgaaa
