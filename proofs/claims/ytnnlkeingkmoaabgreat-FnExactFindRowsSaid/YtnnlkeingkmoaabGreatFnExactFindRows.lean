/- The law FnExactFindRows returns true for every schema, database, table, columns and key: the program's FindRows and the reference's hand back the same, the arguments read as they did, and the result's memory is its own. No condition. -/
import Derived.Test.YtnnlkeingkmoaabGreatRows
import Derived.Test.YtnnlkeingkmoaabGreatFind
import Derived.Test.YtnnlkeingkmoaabGreatMarkS
import Derived.Test.YtnnlkeingkmoaabGreatWin
import Derived.ProofKit
import Derived.OpenShut
import Derived.ShutString
import Derived.ChangeOld
import Derived.SizedLaws
namespace Go.Proofs.YtnnlkeingkmoaabGreat
open Go.RowKit
set_option linter.unusedVariables false
set_option linter.unusedSimpArgs false
theorem findV_len (s : List Table) (db : List Data) (table : Int) (cols : List Int) (key : List Val) : (findV s db table cols key).length ≤ 60 := by
  unfold findV
  split
  · rename_i h
    simp only [findB, Bool.and_eq_true] at h
    obtain ⟨⟨h, ht⟩, -⟩ := h
    unfold datAt
    cases hd : db[table.toNat]? with
    | none => simp [foundV]
    | some d =>
      obtain ⟨hk, rfl⟩ := List.getElem?_eq_some_iff.mp hd
      have hlen : db.length = s.length := by simp only [dbOkB, Bool.and_eq_true] at h; exact db_len h.2
      obtain ⟨t', ht', h1, h2, h3⟩ := db_table h (List.getElem?_eq_getElem hk)
      simp only [Option.getD_some, foundV, List.length_map]
      exact Nat.le_trans (List.length_filter_le _ _) h2
  · exact Nat.zero_le _
theorem cnt_int {xs : List Int} : cntL cInt xs = xs.length := by
  unfold cntL; rw [cSum_zero cInt (fun _ => rfl)]; rfl
set_option maxHeartbeats 8000000 in
theorem law_FnExactFindRows (A : Option Addr) (la ca : Nat) (s : List Table) {W : World} (hs : IsSl Kd.table W (· < W.heap.size) A la ca s) (B : Option Addr) (lb cb : Nat) (db : List Data) (hd : IsSl Kd.data W (· < W.heap.size) B lb cb db) (table : Int)
    (C : Option Addr) (lc cc : Nat) (cols : List Int) (hc : IsSl Kd.int W (· < W.heap.size) C lc cc cols) (D : Option Addr) (ld cd : Nat) (key : List Val) (hk : IsSl Kd.val W (· < W.heap.size) D ld cd key) (w : World) (hw : w = W) :
    Calls Tryz.prog 4 #[.slice A la ca, .slice B lb cb, .int .i64 table, .slice C lc cc, .slice D ld cd] w (Ret w (.bool true)) := by
  subst hw
  have hlc : lc ≤ maxLen := Nat.le_trans hc.2.1 hc.2.2.1
  unfold maxLen at hlc
  by_cases hb : (1048576 : Int) < (lc : Int)
  · go_enter Tryz.func4, Tryz.ntmps4
    go_wp2
    go_ret
    exact ⟨rfl, (by repeat (with_reducible first | exact Grow.refl _ | assumption | refine Grow.drew ?_ | refine Grow.alloc ?_ _ | refine Grow.set ?_ (by first | exact Nat.le_refl _ | (simp; done) | (simp; omega) | omega) _ | exact And.left (by assumption) | refine Grow.trans ?_ (by assumption)))⟩
  have hcs : SmL smInt cols := ⟨by rw [hc.1]; omega, fun _ _ => trivial⟩
  have hcn : cntL cInt cols ≤ 1048576 := by rw [cnt_int, hc.1]; omega
  go_enter Tryz.func4, Tryz.ntmps4
  go_wp2_with fail
  refine (szTableS_any 1048576 _ (hs) (by decide) (by decide)).mono ?_
  rintro e w1 ⟨r1, rfl, hr1, g1⟩
  have G1 : Grow w w1 := g1
  rcases hr1 with rfl | ⟨p1, q1, hl1⟩
  · go_wp2
    go_ret
    exact ⟨rfl, G1⟩
  go_wp2_with fail
  refine (szDataS_any r1 _ (hd.grow G1) p1 (by omega)).mono ?_
  rintro e w2 ⟨r2, rfl, hr2, g2⟩
  have G2 : Grow w w2 := G1.trans g2
  rcases hr2 with rfl | ⟨p2, q2, hl2⟩
  · go_wp2
    go_ret
    exact ⟨rfl, G2⟩
  go_wp2_with fail
  refine (szValS_any r2 _ (hk.grow G2) p2 (by omega)).mono ?_
  rintro e w3 ⟨r3, rfl, hr3, g3⟩
  have G3 : Grow w w3 := G2.trans g3
  rcases hr3 with rfl | ⟨p3, q3, hl3⟩
  · go_wp2
    go_ret
    exact ⟨rfl, G3⟩
  go_wp2_with fail
  refine (toTableS_any _ (hs.grow G3) hl1).mono ?_
  rintro e w4 ⟨A4, l4, c4, rfl, t4, g4⟩
  have G4 : Grow w w4 := G3.trans g4
  go_wp2_with fail
  refine (toDataS_any _ (hd.grow G4) hl2).mono ?_
  rintro e w5 ⟨A5, l5, c5, rfl, t5, g5⟩
  have G5 : Grow w w5 := G4.trans g5
  go_wp2_with fail
  refine (toInt64S_any _ (hc.grow G5) hcs).mono ?_
  rintro e w6 ⟨A6, l6, c6, rfl, t6, g6⟩
  have G6 : Grow w w6 := G5.trans g6
  go_wp2_with fail
  refine (toValS_any _ (hk.grow G6) hl3).mono ?_
  rintro e w7 ⟨A7, l7, c7, rfl, t7, g7⟩
  have G7 : Grow w w7 := G6.trans g7
  go_wp2_with fail
  refine (sFindRows_any table _ (t4.fresh.grow (g5.trans (g6.trans g7))) (t5.fresh.grow (g6.trans g7)) (t6.fresh.grow g7) t7.fresh).mono ?_
  rintro e w8 ⟨A8, l8, c8, rfl, t8, g8⟩
  have G8 : Grow w w8 := G7.trans g8
  go_wp2_with fail
  refine (toTableS_any _ (hs.grow G8) hl1).mono ?_
  rintro e w9 ⟨A9, l9, c9, rfl, t9, g9⟩
  have G9 : Grow w w9 := G8.trans g9
  go_wp2_with fail
  refine (toDataS_any _ (hd.grow G9) hl2).mono ?_
  rintro e w10 ⟨A10, l10, c10, rfl, t10, g10⟩
  have G10 : Grow w w10 := G9.trans g10
  go_wp2_with fail
  refine (toInt64S_any _ (hc.grow G10) hcs).mono ?_
  rintro e w11 ⟨A11, l11, c11, rfl, t11, g11⟩
  have G11 : Grow w w11 := G10.trans g11
  go_wp2_with fail
  refine (toValS_any _ (hk.grow G11) hl3).mono ?_
  rintro e w12 ⟨A12, l12, c12, rfl, t12, g12⟩
  have G12 : Grow w w12 := G11.trans g12
  go_wp2_with fail
  refine (iFindRows_any table _ (t9.fresh.grow (g10.trans (g11.trans g12))) (t10.fresh.grow (g11.trans g12)) (t11.fresh.grow g12) t12.fresh).mono ?_
  rintro e w13 ⟨A13, l13, c13, rfl, t13, g13⟩
  have G13 : Grow w w13 := G12.trans g13
  go_wp2_with fail
  refine (eqInt64S_any _ t13.fresh (t8.fresh.grow (g9.trans (g10.trans (g11.trans (g12.trans g13)))))).mono ?_
  rintro e w14 ⟨rfl, g14⟩
  have G14 : Grow w w14 := G13.trans g14
  go_wp2_with fail
  refine (toTableS_any _ (hs.grow G14) hl1).mono ?_
  rintro e w15 ⟨A15, l15, c15, rfl, t15, g15⟩
  have G15 : Grow w w15 := G14.trans g15
  go_wp2_with fail
  refine (eqTableS_any _ (t9.fresh.grow (g10.trans (g11.trans (g12.trans (g13.trans (g14.trans g15)))))) t15.fresh).mono ?_
  rintro e w16 ⟨rfl, g16⟩
  have G16 : Grow w w16 := G15.trans g16
  go_wp2_with fail
  refine (toDataS_any _ (hd.grow G16) hl2).mono ?_
  rintro e w17 ⟨A17, l17, c17, rfl, t17, g17⟩
  have G17 : Grow w w17 := G16.trans g17
  go_wp2_with fail
  refine (eqDataS_any _ (t10.fresh.grow (g11.trans (g12.trans (g13.trans (g14.trans (g15.trans (g16.trans g17))))))) t17.fresh).mono ?_
  rintro e w18 ⟨rfl, g18⟩
  have G18 : Grow w w18 := G17.trans g18
  go_wp2_with fail
  refine (toInt64S_any _ (hc.grow G18) hcs).mono ?_
  rintro e w19 ⟨A19, l19, c19, rfl, t19, g19⟩
  have G19 : Grow w w19 := G18.trans g19
  go_wp2_with fail
  refine (eqInt64S_any _ (t11.fresh.grow (g12.trans (g13.trans (g14.trans (g15.trans (g16.trans (g17.trans (g18.trans g19)))))))) t19.fresh).mono ?_
  rintro e w20 ⟨rfl, g20⟩
  have G20 : Grow w w20 := G19.trans g20
  go_wp2_with fail
  refine (toValS_any _ (hk.grow G20) hl3).mono ?_
  rintro e w21 ⟨A21, l21, c21, rfl, t21, g21⟩
  have G21 : Grow w w21 := G20.trans g21
  go_wp2_with fail
  refine (eqValS_any _ (t12.fresh.grow (g13.trans (g14.trans (g15.trans (g16.trans (g17.trans (g18.trans (g19.trans (g20.trans g21))))))))) t21.fresh).mono ?_
  rintro e w22 ⟨rfl, g22⟩
  have G22 : Grow w w22 := G21.trans g22
  have hk5 : l13 ≤ 60 := by have := findV_len s db table cols key; rw [t13.1] at this; exact this
  have X9 := isSl_inWin t9 (Nat.le_refl _) (Nat.le_refl _) (g10.trans (g11.trans (g12.trans (g13.trans (g14.trans (g15.trans (g16.trans (g17.trans (g18.trans (g19.trans (g20.trans (g21.trans g22))))))))))))
  have X10 := isSl_inWin t10 (Nat.le_refl _) (Nat.le_refl _) (g11.trans (g12.trans (g13.trans (g14.trans (g15.trans (g16.trans (g17.trans (g18.trans (g19.trans (g20.trans (g21.trans g22)))))))))))
  have X11 := isSl_inWin t11 (Nat.le_refl _) (Nat.le_refl _) (g12.trans (g13.trans (g14.trans (g15.trans (g16.trans (g17.trans (g18.trans (g19.trans (g20.trans (g21.trans g22))))))))))
  have X12 := isSl_inWin t12 (Nat.le_refl _) (Nat.le_refl _) (g13.trans (g14.trans (g15.trans (g16.trans (g17.trans (g18.trans (g19.trans (g20.trans (g21.trans g22)))))))))
  have X13 := isSl_inWin t13 (Nat.le_refl _) (Nat.le_refl _) (g14.trans (g15.trans (g16.trans (g17.trans (g18.trans (g19.trans (g20.trans (g21.trans g22))))))))
  have X8 := isSl_toLow t8 (g9.trans (g10.trans (g11.trans (g12.trans (g13.trans (g14.trans (g15.trans (g16.trans (g17.trans (g18.trans (g19.trans (g20.trans (g21.trans g22)))))))))))))
  have Zw := G8.size
  have z8 := g8.size
  have z9 := g9.size
  have z10 := g10.size
  have z11 := g11.size
  have z12 := g12.size
  have z13 := g13.size
  have z14 := g14.size
  have z15 := g15.size
  have z16 := g16.size
  have z17 := g17.size
  have z18 := g18.size
  have z19 := g19.size
  have z20 := g20.size
  have z21 := g21.size
  have z22 := g22.size
  go_wp2_with fail
  refine (markTableS_mk 1 rfl _ X9 (by omega)).mono ?_
  rintro e w23 ⟨r23, rfl, lo23, hi23, M23⟩
  have W23 := M23.1
  replace X10 := isSl_winAbove X10 (by omega) W23
  replace X11 := isSl_winAbove X11 (by omega) W23
  replace X12 := isSl_winAbove X12 (by omega) W23
  replace X13 := isSl_winAbove X13 (by omega) W23
  replace X8 := isSl_below X8 (by omega) W23
  have G23 : Grow w w23 := W23.after G22 (by omega)
  go_wp2_with fail
  refine (markDataS_mk r23 rfl _ X10 (by omega)).mono ?_
  rintro e w24 ⟨r24, rfl, lo24, hi24, M24⟩
  have W24 := M24.1
  replace X11 := isSl_winAbove X11 (by omega) W24
  replace X12 := isSl_winAbove X12 (by omega) W24
  replace X13 := isSl_winAbove X13 (by omega) W24
  replace X8 := isSl_below X8 (by omega) W24
  have G24 : Grow w w24 := W24.after G23 (by omega)
  go_wp2_with fail
  refine (markInt64S_mk r24 rfl _ X11 (by omega)).mono ?_
  rintro e w25 ⟨r25, rfl, lo25, hi25, M25⟩
  have W25 := M25.1
  replace X12 := isSl_winAbove X12 (by omega) W25
  replace X13 := isSl_winAbove X13 (by omega) W25
  replace X8 := isSl_below X8 (by omega) W25
  have G25 : Grow w w25 := W25.after G24 (by omega)
  go_wp2_with fail
  refine (markValS_mk r25 rfl _ X12 (by omega)).mono ?_
  rintro e w26 ⟨r26, rfl, lo26, hi26, M26⟩
  have W26 := M26.1
  replace X13 := isSl_winAbove X13 (by omega) W26
  replace X8 := isSl_below X8 (by omega) W26
  have G26 : Grow w w26 := W26.after G25 (by omega)
  have hq0 : ¬ ((r26 : Int) < 0) := by omega
  go_wp2_with fail
  refine (eqInt64S_any _ (isSl_win X13) (isSl_low X8)).mono ?_
  rintro e w27 ⟨rfl, g27⟩
  have G27 : Grow w w27 := G26.trans g27
  go_wp2_with fail
  refine (markInt64S_eq 1 rfl _ (isSl_winG X13 g27) (by omega)).mono ?_
  rintro e w28 ⟨rfl, W28, m28⟩
  have G28 : Grow w w28 := W28.after G27 (by omega)
  have K0 := isSl_below (isSl_belowG X8 g27) (by omega) W28
  have hq1 : ¬ ((1 : Int) + (l13 : Int) < 0) := by omega
  go_wp2_with fail
  refine (heldInt64S_eq 1 rfl _ (isSl_win m28) (by omega)).mono ?_
  rintro e w29 ⟨rfl, rfl⟩
  have G29 := G28
  go_wp2_with fail
  refine (toTableS_any _ (hs.grow G29) hl1).mono ?_
  rintro e w30 ⟨A30, l30, c30, rfl, t30, g30⟩
  have G30 : Grow w w30 := G29.trans g30
  go_wp2_with fail
  refine (toDataS_any _ (hd.grow G30) hl2).mono ?_
  rintro e w31 ⟨A31, l31, c31, rfl, t31, g31⟩
  have G31 : Grow w w31 := G30.trans g31
  go_wp2_with fail
  refine (toInt64S_any _ (hc.grow G31) hcs).mono ?_
  rintro e w32 ⟨A32, l32, c32, rfl, t32, g32⟩
  have G32 : Grow w w32 := G31.trans g32
  go_wp2_with fail
  refine (toValS_any _ (hk.grow G32) hl3).mono ?_
  rintro e w33 ⟨A33, l33, c33, rfl, t33, g33⟩
  have G33 : Grow w w33 := G32.trans g33
  go_wp2_with fail
  refine (iFindRows_any table _ (t30.fresh.grow (g31.trans (g32.trans g33))) (t31.fresh.grow (g32.trans g33)) (t32.fresh.grow g33) t33.fresh).mono ?_
  rintro e w34 ⟨A34, l34, c34, rfl, t34, g34⟩
  have G34 : Grow w w34 := G33.trans g34
  go_wp2_with fail
  refine (eqInt64S_any _ t34.fresh (isSl_low (isSl_belowG K0 (g30.trans (g31.trans (g32.trans (g33.trans g34))))))).mono ?_
  rintro e w35 ⟨rfl, g35⟩
  have G35 : Grow w w35 := G34.trans g35
  go_wp2_with fail
  refine (heldInt64S_eq 1 rfl _ ((isSl_win m28).grow (g30.trans (g31.trans (g32.trans (g33.trans (g34.trans g35)))))) (by omega)).mono ?_
  rintro e w36 ⟨rfl, rfl⟩
  go_wp2
  go_ret
  exact ⟨rfl, G35⟩
end Go.Proofs.YtnnlkeingkmoaabGreat
namespace Go.Proofs.YtnnlkeingkmoaabGreat.FnExactFindRows
open Go.ChangeShapes Go.WideShapes Go.ChangeAt Go.RowKit
open Go.ChangeMaps (open_string shut_string)
theorem own : ownKnob Tryz.prog.godebug = none := by kernel_rfl
theorem laidOut : laidOutB Tryz.prog = true := by kernel_rfl
set_option maxRecDepth 100000 in
theorem lifted (os : Os) (started : os.Started) (H : Type) (enc : TypeId × Value → H) :
    ReturnsInHanded {} Tryz.checked os 4 .any (Rows.fnExactFindRowsSpec.pre6 enc Tryz.prog Tryz.f4 Rows.fnExactFindRowsRow.domain false) (Rows.fnExactFindRowsSpec.post enc Tryz.prog Tryz.f4 false true false false) := by
  refine returnsInHanded_of_change_sized (C := Tryz.checked) own started (by kernel_rfl) Tryz.func4
    (ChangeSpec.witness6 (enc := enc) (C := Tryz.checked) false ⟨#[], #[.slice none 0 0, .slice none 0 0, .int .i64 0, .slice none 0 0, .slice none 0 0], []⟩ 8 (by kernel_rfl) (by kernel_rfl) (by kernel_rfl) (by kernel_rfl)) ?_
  intro W base args ds gs before hval0 hW hcnd hsz0 _
  have hval : ∀ (j : Nat) t v, Tryz.f4.params[j]? = some t → args[j]? = some v → Value.okWide Tryz.prog W .any base t v := hval0
  have hW' := hW
  obtain ⟨p, q, hA0, hV, rfl, hfz, hnd⟩ := hW
  have hA : DataW.TrodAll enc Tryz.prog W 0 (fun _ => true) true Tryz.f4.params.toList args.toList ds p := hA0
  rw [Tryz.params4] at hA hval
  obtain ⟨v0, vs0, d0, ds0, p0, q0, hargs, rfl, rfl, h0, r0⟩ := trodAll_cons hA
  obtain ⟨v1, vs1, d1, ds1, p1, q1, rfl, rfl, rfl, h1, r1⟩ := trodAll_cons r0
  obtain ⟨v2, vs2, d2, ds2, p2, q2, rfl, rfl, rfl, h2, r2⟩ := trodAll_cons r1
  obtain ⟨v3, vs3, d3, ds3, p3, q3, rfl, rfl, rfl, h3, r3⟩ := trodAll_cons r2
  obtain ⟨v4, vs4, d4, ds4, p4, q4, rfl, rfl, rfl, h4, r4⟩ := trodAll_cons r3
  obtain ⟨rfl, rfl, rfl⟩ := trodAll_nil r4
  obtain rfl : args = #[v0, v1, v2, v3, v4] := by cases args; simp_all
  obtain ⟨rfl, rfl⟩ := trodVars_none hV
  have k0 := h0
  have lt0 : ∀ x ∈ p0, x.block < W.heap.size := by obtain ⟨m, hm⟩ := k0; exact DataW.trod_lt m _ _ _ hm
  have k1 := h1
  have lt1 : ∀ x ∈ p1, x.block < W.heap.size := by obtain ⟨m, hm⟩ := k1; exact DataW.trod_lt m _ _ _ hm
  have k2 := h2
  have lt2 : ∀ x ∈ p2, x.block < W.heap.size := by obtain ⟨m, hm⟩ := k2; exact DataW.trod_lt m _ _ _ hm
  have k3 := h3
  have lt3 : ∀ x ∈ p3, x.block < W.heap.size := by obtain ⟨m, hm⟩ := k3; exact DataW.trod_lt m _ _ _ hm
  have k4 := h4
  have lt4 : ∀ x ∈ p4, x.block < W.heap.size := by obtain ⟨m, hm⟩ := k4; exact DataW.trod_lt m _ _ _ hm
  obtain ⟨A0, len0, cap0, rfl⟩ := okWide_slice Tryz.underlying45 (hval 0 45 v0 rfl rfl)
  obtain ⟨xs0, e0⟩ := opens_ltables.of h0
  replace e0 := isSl_of e0
  obtain ⟨A1, len1, cap1, rfl⟩ := okWide_slice Tryz.underlying46 (hval 1 46 v1 rfl rfl)
  obtain ⟨xs1, e1⟩ := opens_ldatas.of h1
  replace e1 := isSl_of e1
  obtain ⟨x2, rfl, _, _, wx2⟩ := open_int Tryz.underlying2 (hval 2 2 v2 rfl rfl) h2
  obtain ⟨A3, len3, cap3, rfl⟩ := okWide_slice Tryz.underlying23 (hval 3 23 v3 rfl rfl)
  obtain ⟨xs3, e3⟩ := opens_ints.of h3
  replace e3 := isSl_of e3
  obtain ⟨A4, len4, cap4, rfl⟩ := okWide_slice Tryz.underlying29 (hval 4 29 v4 rfl rfl)
  obtain ⟨xs4, e4⟩ := opens_lvals.of h4
  replace e4 := isSl_of e4
  clear hA0 hval0 hsz0
  refine (law_FnExactFindRows A0 len0 cap0 xs0 e0 A1 len1 cap1 xs1 e1 x2 A3 len3 cap3 xs3 e3 A4 len4 cap4 xs4 e4 W rfl).mono fun e W' ⟨he, bel⟩ => ?_
  subst he
  exact ⟨_, rfl, _, _, _, [], _, [], hW', trodAll_mk1 (shut_bool Tryz.underlying4 _), (trodAll_cons_mk (Below.trod laidOut (by kernel_rfl) (of_decide_eq_true (by kernel_rfl)) k0 bel lt0) (trodAll_cons_mk (Below.trod laidOut (by kernel_rfl) (of_decide_eq_true (by kernel_rfl)) k1 bel lt1) (trodAll_cons_mk (Below.trod laidOut (by kernel_rfl) (of_decide_eq_true (by kernel_rfl)) k2 bel lt2) (trodAll_cons_mk (Below.trod laidOut (by kernel_rfl) (of_decide_eq_true (by kernel_rfl)) k3 bel lt3) (trodAll_cons_mk (Below.trod laidOut (by kernel_rfl) (of_decide_eq_true (by kernel_rfl)) k4 bel lt4) trodAll_mk0))))), rfl, Below.frame bel _, fun h => by cases h⟩
theorem over : Rows.fnExactFindRowsRow.holds Tryz.pinned (OpenSpec.ofChange Rows.fnExactFindRowsSpec) :=
  OpenClaim.holds_of_wide 4 Tryz.f4 rfl rfl rfl rfl rfl rfl rfl ⟨rfl, rfl, rfl, rfl, rfl⟩ rfl rfl rfl rfl rfl (by kernel_rfl) Tryz.func4 (by kernel_rfl)
    (of_decide_eq_true (by kernel_rfl)) (by unfold Func.isWrapper; first | (rw [if_pos (by decide +kernel)]; kernel_rfl) | (rw [if_neg (by decide +kernel)]; exact ⟨rfl, rfl⟩))
    (fun os started H enc _ => lifted os started H enc)
theorem proved : Rows.FnExactFindRowsSaid := over
#print axioms proved
end Go.Proofs.YtnnlkeingkmoaabGreat.FnExactFindRows
namespace Go.Proofs.YtnnlkeingkmoaabGreat
/-- The row, for the claim. -/
theorem fnExactFindRows_holds : Rows.FnExactFindRowsSaid := FnExactFindRows.proved
end Go.Proofs.YtnnlkeingkmoaabGreat
