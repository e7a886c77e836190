import Derived.Test.YtonijaniaimgaaaGreatFlaws
import Derived.Test.YtonijaniaimgaaaGreatMarkS
import Derived.Test.YtonijaniaimgaaaGreatMarkF
/-! The law FnExactFlaws, walked. -/
namespace Go.Proofs.YtonijaniaimgaaaGreat
open Go.RowKit
set_option linter.unusedVariables false
set_option linter.unusedSimpArgs false
def FlawsRes3 (q : Bool) (fl : List Flaw) (w : World) (e : Ending) (w' : World) : Prop := ∃ A len cap, e = .returned (.tuple #[.slice A len cap, .bool q]) ∧ IsSl Kd.flaw w' (Fresh w.heap.size w') A len cap fl ∧ Grow w w'
theorem sFlaws_eq {q : Bool} {fl : List Flaw} {A B : Option Addr} {la ca lb cb : Nat} {s : List Table} {db : List Data} (hq : dbOkB s db = q) (hf : flawsOf s db = fl) (w : World) (hs : IsSl Kd.table w (· < w.heap.size) A la ca s) (hd : IsSl Kd.data w (· < w.heap.size) B lb cb db) :
    Calls Tryz.prog 22 #[.slice A la ca, .slice B lb cb] w (FlawsRes3 q fl w) := by subst hq; subst hf; exact sFlaws_any w hs hd
theorem iFlaws_eq {q : Bool} {fl : List Flaw} {A B : Option Addr} {la ca lb cb : Nat} {s : List Table} {db : List Data} (hq : dbOkB s db = q) (hf : flawsOf s db = fl) (w : World) (hs : IsSl Kd.table w (· < w.heap.size) A la ca s) (hd : IsSl Kd.data w (· < w.heap.size) B lb cb db) :
    Calls Tryz.prog 23 #[.slice A la ca, .slice B lb cb] w (FlawsRes3 q fl w) := by subst hq; subst hf; exact iFlaws_any w hs hd
set_option maxHeartbeats 8000000 in
theorem law_FnExactFlaws (A : Option Addr) (la ca : Nat) (s : List Table) {W : World} (hs : IsSl Kd.table W (· < W.heap.size) A la ca s) (B : Option Addr) (lb cb : Nat) (db : List Data) (hd : IsSl Kd.data W (· < W.heap.size) B lb cb db) (w : World) (hw : w = W) :
    Calls Tryz.prog 5 #[.slice A la ca, .slice B lb cb] w (Ret w (.bool true)) := by
  subst hw
  obtain ⟨q, hq⟩ : ∃ q, dbOkB s db = q := ⟨_, rfl⟩
  obtain ⟨fl, hf⟩ : ∃ fl, flawsOf s db = fl := ⟨_, rfl⟩
  have HL := Lib.hid (show fl.length ≤ 1200 by rw [← hf]; exact flawsOf_len s db)
  have HQ := Lib.hid hq
  have HF := Lib.hid hf
  clear hq hf
  go_enter Tryz.func5, Tryz.ntmps5
  go_wp2_with fail
  refine (szTableS_any 1048576 _ (hs) (by decide) (by decide)).mono ?_
  rintro e w1 ⟨r1, rfl, hr1, g1⟩
  have G1 : Grow w w1 := g1
  rcases hr1 with rfl | ⟨p1, q1, hl1⟩
  · go_wp2
    go_ret
    exact ⟨rfl, G1⟩
  go_wp2_with fail
  refine (szDataS_any r1 _ (hd.grow G1) p1 (by omega)).mono ?_
  rintro e w2 ⟨r2, rfl, hr2, g2⟩
  have G2 : Grow w w2 := G1.trans g2
  rcases hr2 with rfl | ⟨p2, q2, hl2⟩
  · go_wp2
    go_ret
    exact ⟨rfl, G2⟩
  go_wp2_with fail
  refine (toTableS_any _ (hs.grow G2) hl1).mono ?_
  rintro e w3 ⟨A3, l3, c3, rfl, t3, g3⟩
  have G3 : Grow w w3 := G2.trans g3
  go_wp2_with fail
  refine (toDataS_any _ (hd.grow G3) hl2).mono ?_
  rintro e w4 ⟨A4, l4, c4, rfl, t4, g4⟩
  have G4 : Grow w w4 := G3.trans g4
  go_wp2_with fail
  refine (sFlaws_eq HQ.out HF.out _ (t3.fresh.grow g4) t4.fresh).mono ?_
  rintro e w5 ⟨A5, l5, c5, rfl, t5, g5⟩
  have G5 : Grow w w5 := G4.trans g5
  go_wp2_with fail
  refine (toTableS_any _ (hs.grow G5) hl1).mono ?_
  rintro e w6 ⟨A6, l6, c6, rfl, t6, g6⟩
  have G6 : Grow w w6 := G5.trans g6
  go_wp2_with fail
  refine (toDataS_any _ (hd.grow G6) hl2).mono ?_
  rintro e w7 ⟨A7, l7, c7, rfl, t7, g7⟩
  have G7 : Grow w w7 := G6.trans g7
  go_wp2_with fail
  refine (iFlaws_eq HQ.out HF.out _ (t6.fresh.grow g7) t7.fresh).mono ?_
  rintro e w8 ⟨A8, l8, c8, rfl, t8, g8⟩
  have G8 : Grow w w8 := G7.trans g8
  go_wp2_with fail
  refine (eqFlawS_any _ t8.fresh (t5.fresh.grow (g6.trans (g7.trans g8)))).mono ?_
  rintro e w9 ⟨rfl, g9⟩
  have G9 : Grow w w9 := G8.trans g9
  go_wp2_with fail
  refine (toTableS_any _ (hs.grow G9) hl1).mono ?_
  rintro e w10 ⟨A10, l10, c10, rfl, t10, g10⟩
  have G10 : Grow w w10 := G9.trans g10
  go_wp2_with fail
  refine (eqTableS_any _ (t6.fresh.grow (g7.trans (g8.trans (g9.trans g10)))) t10.fresh).mono ?_
  rintro e w11 ⟨rfl, g11⟩
  have G11 : Grow w w11 := G10.trans g11
  go_wp2_with fail
  refine (toDataS_any _ (hd.grow G11) hl2).mono ?_
  rintro e w12 ⟨A12, l12, c12, rfl, t12, g12⟩
  have G12 : Grow w w12 := G11.trans g12
  go_wp2_with fail
  refine (eqDataS_any _ (t7.fresh.grow (g8.trans (g9.trans (g10.trans (g11.trans g12))))) t12.fresh).mono ?_
  rintro e w13 ⟨rfl, g13⟩
  have G13 : Grow w w13 := G12.trans g13
  have hk5 : l8 ≤ 1200 := by have := HL.out; rw [t8.1] at this; exact this
  have X6 := isSl_inWin t6 (Nat.le_refl _) (Nat.le_refl _) (g7.trans (g8.trans (g9.trans (g10.trans (g11.trans (g12.trans g13))))))
  have X7 := isSl_inWin t7 (Nat.le_refl _) (Nat.le_refl _) (g8.trans (g9.trans (g10.trans (g11.trans (g12.trans g13)))))
  have X8 := isSl_inWin t8 (Nat.le_refl _) (Nat.le_refl _) (g9.trans (g10.trans (g11.trans (g12.trans g13))))
  have X5 := isSl_toLow t5 (g6.trans (g7.trans (g8.trans (g9.trans (g10.trans (g11.trans (g12.trans g13)))))))
  have Zw := G5.size
  have z5 := g5.size
  have z6 := g6.size
  have z7 := g7.size
  have z8 := g8.size
  have z9 := g9.size
  have z10 := g10.size
  have z11 := g11.size
  have z12 := g12.size
  have z13 := g13.size
  go_wp2_with fail
  refine (markTableS_mk 1 rfl _ X6 (by omega)).mono ?_
  rintro e w14 ⟨r14, rfl, lo14, hi14, M14⟩
  have W14 := M14.1
  replace X7 := isSl_winAbove X7 (by omega) W14
  replace X8 := isSl_winAbove X8 (by omega) W14
  replace X5 := isSl_below X5 (by omega) W14
  have G14 : Grow w w14 := W14.after G13 (by omega)
  go_wp2_with fail
  refine (markDataS_mk r14 rfl _ X7 (by omega)).mono ?_
  rintro e w15 ⟨r15, rfl, lo15, hi15, M15⟩
  have W15 := M15.1
  replace X8 := isSl_winAbove X8 (by omega) W15
  replace X5 := isSl_below X5 (by omega) W15
  have G15 : Grow w w15 := W15.after G14 (by omega)
  have hq0 : ¬ ((r15 : Int) < 0) := by omega
  go_wp2_with fail
  refine (eqFlawS_any _ (isSl_win X8) (isSl_low X5)).mono ?_
  rintro e w16 ⟨rfl, g16⟩
  have G16 : Grow w w16 := G15.trans g16
  go_wp2_with fail
  refine (markFlawS_eq 1 rfl _ (isSl_winG X8 g16) (by omega)).mono ?_
  rintro e w17 ⟨rfl, W17, m17⟩
  have G17 : Grow w w17 := W17.after G16 (by omega)
  have K0 := isSl_below (isSl_belowG X5 g16) (by omega) W17
  have hq1 : ¬ ((1 : Int) + 3 * (l8 : Int) < 0) := by omega
  go_wp2_with fail
  refine (heldFlawS_eq 1 rfl _ (isSl_win m17) (by omega)).mono ?_
  rintro e w18 ⟨rfl, rfl⟩
  have G18 := G17
  go_wp2_with fail
  refine (toTableS_any _ (hs.grow G18) hl1).mono ?_
  rintro e w19 ⟨A19, l19, c19, rfl, t19, g19⟩
  have G19 : Grow w w19 := G18.trans g19
  go_wp2_with fail
  refine (toDataS_any _ (hd.grow G19) hl2).mono ?_
  rintro e w20 ⟨A20, l20, c20, rfl, t20, g20⟩
  have G20 : Grow w w20 := G19.trans g20
  go_wp2_with fail
  refine (iFlaws_eq HQ.out HF.out _ (t19.fresh.grow g20) t20.fresh).mono ?_
  rintro e w21 ⟨A21, l21, c21, rfl, t21, g21⟩
  have G21 : Grow w w21 := G20.trans g21
  go_wp2_with fail
  refine (eqFlawS_any _ t21.fresh (isSl_low (isSl_belowG K0 (g19.trans (g20.trans g21))))).mono ?_
  rintro e w22 ⟨rfl, g22⟩
  have G22 : Grow w w22 := G21.trans g22
  go_wp2_with fail
  refine (heldFlawS_eq 1 rfl _ ((isSl_win m17).grow (g19.trans (g20.trans (g21.trans g22)))) (by omega)).mono ?_
  rintro e w23 ⟨rfl, rfl⟩
  go_wp2
  go_ret
  exact ⟨rfl, G22⟩
end Go.Proofs.YtonijaniaimgaaaGreat
