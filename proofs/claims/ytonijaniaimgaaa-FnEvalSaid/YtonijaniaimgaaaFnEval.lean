/- The law FnEval returns true for every code: an expression of which both are, with an op behind, is that op of both; what is right has one value at most. No condition. -/
import Derived.Test.YtonijaniaimgaaaRows
import Derived.Test.YtonijaniaimgaaaDraw3
import Derived.Test.YtonijaniaimgaaaLit
import Derived.Test.YtonijaniaimgaaaLawBig
import Derived.Test.YtonijaniaimgaaaLawExpr
import Derived.Test.YtonijaniaimgaaaEvalS
import Derived.ProofKit
import Derived.OpenShut
import Derived.ShutString
import Derived.ChangeOld
import Derived.SizedLaws
namespace Go.Proofs.Ytonijaniaimgaaa
open Go.RowKit
set_option linter.unusedVariables false
set_option linter.unusedSimpArgs false
theorem iEval_none {A B : Option Addr} {la ca lb cb : Nat} {e : List Tok} {row : List Val} (h : evL e row = none) (w : World) (he : IsSl Kd.tok w (· < w.heap.size) A la ca e) (hr : IsSl Kd.val w (· < w.heap.size) B lb cb row) :
    Calls Try.prog 15 #[.slice A la ca, .slice B lb cb] w (Ret w (.tuple #[.agg #[.int .i64 0, .int .i64 0, .string ⟨#[]⟩], .bool false])) :=
  (iEval_any w he hr).mono fun e w' hv => by rw [h] at hv; exact hv
theorem sEval_none {A B : Option Addr} {la ca lb cb : Nat} {e : List Tok} {row : List Val} (h : evL e row = none) (w : World) (he : IsSl Kd.tok w (· < w.heap.size) A la ca e) (hr : IsSl Kd.val w (· < w.heap.size) B lb cb row) :
    Calls Try.prog 16 #[.slice A la ca, .slice B lb cb] w (Ret w (.tuple #[.agg #[.int .i64 0, .int .i64 0, .string ⟨#[]⟩], .bool false])) :=
  (sEval_any w he hr).mono fun e w' hv => by rw [h] at hv; exact hv
theorem iEval_some {A B : Option Addr} {la ca lb cb : Nat} {e : List Tok} {row : List Val} {k n : Int} {s : ByteArray} (h : evL e row = some ⟨k, n, s⟩) (w : World) (he : IsSl Kd.tok w (· < w.heap.size) A la ca e) (hr : IsSl Kd.val w (· < w.heap.size) B lb cb row) :
    Calls Try.prog 15 #[.slice A la ca, .slice B lb cb] w (Ret w (.tuple #[.agg #[.int .i64 k, .int .i64 n, .string s], .bool true])) :=
  (iEval_any w he hr).mono fun e w' hv => by rw [h] at hv; exact hv
theorem sEval_some {A B : Option Addr} {la ca lb cb : Nat} {e : List Tok} {row : List Val} {k n : Int} {s : ByteArray} (h : evL e row = some ⟨k, n, s⟩) (w : World) (he : IsSl Kd.tok w (· < w.heap.size) A la ca e) (hr : IsSl Kd.val w (· < w.heap.size) B lb cb row) :
    Calls Try.prog 16 #[.slice A la ca, .slice B lb cb] w (Ret w (.tuple #[.agg #[.int .i64 k, .int .i64 n, .string s], .bool true])) :=
  (sEval_any w he hr).mono fun e w' hv => by rw [h] at hv; exact hv
theorem iExprOk_eq (cols : Int) {A : Option Addr} {len cap : Nat} {xs : List Tok} {r : Bool} (hr : exprB cols xs = r) (w : World) (h : IsSl Kd.tok w (· < w.heap.size) A len cap xs) : Calls Try.prog 19 #[.slice A len cap, .int .i64 cols] w (Ret w (.bool r)) := by
  subst hr; exact iExprOk_any cols w h
theorem sExprOk_eq (cols : Int) {A : Option Addr} {len cap : Nat} {xs : List Tok} {r : Bool} (hr : exprB cols xs = r) (w : World) (h : IsSl Kd.tok w (· < w.heap.size) A len cap xs) : Calls Try.prog 20 #[.slice A len cap, .int .i64 cols] w (Ret w (.bool r)) := by
  subst hr; exact sExprOk_any cols w h
theorem iValOk_yes {k n : Int} {s : ByteArray} (h : okB ⟨k, n, s⟩ = true) (w : World) : Calls Try.prog 21 #[.agg #[.int .i64 k, .int .i64 n, .string s]] w (Ret w (.bool true)) :=
  (iValOk_any k n s w).mono fun e w' ⟨he, hg⟩ => ⟨by rw [he, h], hg⟩
theorem told3_eq {k n : Int} {s : ByteArray} {r : Int} (hr : told3V ⟨k, n, s⟩ = r) (w : World) : Calls Try.prog 22 #[.agg #[.int .i64 k, .int .i64 n, .string s]] w (Ret w (.int .i64 r)) := by subst hr; exact told3_any k n s w
theorem iEqual3_eq {k n l m : Int} {s t : ByteArray} {r : Int} (hr : eq3 ⟨k, n, s⟩ ⟨l, m, t⟩ = r) (w : World) : Calls Try.prog 23 #[.agg #[.int .i64 k, .int .i64 n, .string s], .agg #[.int .i64 l, .int .i64 m, .string t]] w (Ret w (.int .i64 r)) := by
  subst hr; exact iEqual3_any k n s l m t w
theorem iLess3_eq {k n l m : Int} {s t : ByteArray} {r : Int} (hr : less3 ⟨k, n, s⟩ ⟨l, m, t⟩ = r) (w : World) : Calls Try.prog 24 #[.agg #[.int .i64 k, .int .i64 n, .string s], .agg #[.int .i64 l, .int .i64 m, .string t]] w (Ret w (.int .i64 r)) := by
  subst hr; exact iLess3_any k n s l m t w
theorem valT_told {a : Int} (h : a = 0 ∨ a = 1 ∨ a = 2) : ∃ k n s, valT a = some ⟨k, n, s⟩ ∧ told3V ⟨k, n, s⟩ = a := by
  rcases h with rfl | rfl | rfl
  · exact ⟨1, 0, ⟨#[]⟩, rfl, rfl⟩
  · exact ⟨1, 1, ⟨#[]⟩, rfl, rfl⟩
  · exact ⟨0, 0, ⟨#[]⟩, rfl, rfl⟩
theorem eq3_is (a b : Val) : eq3 a b = 0 ∨ eq3 a b = 1 ∨ eq3 a b = 2 := by unfold eq3; split <;> (try split) <;> omega
theorem less3_is (a b : Val) : less3 a b = 0 ∨ less3 a b = 1 ∨ less3 a b = 2 := by unfold less3; split <;> (try split) <;> omega
set_option maxRecDepth 20000 in
set_option maxHeartbeats 16000000 in
theorem law_FnEval (A : Option Addr) (len cap : Nat) (xs : List Int) {W : World} (h : IsSl Kd.byte W (· < W.heap.size) A len cap xs) (w : World) (hw : w = W) :
    Calls Try.prog 5 #[.slice A len cap] w (Ret w (.bool true)) := by
  subst hw
  have hl := Nat.le_trans h.2.1 h.2.2.1
  by_cases hbig : 1048576 < len
  · go_enter Try.func5, Try.ntmps5
    go_wp2_with fail
    refine (big_yes _ hl hbig).mono ?_
    rintro e w1 ⟨rfl, rfl⟩
    go_wp2
    go_ret
    exact ⟨rfl, Grow.refl _⟩
  go_enter Try.func5, Try.ntmps5
  go_wp2_with fail
  refine (big_no _ hl hbig).mono ?_
  rintro e w1 ⟨rfl, rfl⟩
  go_wp2_with fail
  refine (drawEval_any _ h).mono ?_
  rintro e w1 ⟨A1, B1, n1, c1, m1, d1, ex, row, rfl, he, hv, hn1, g1⟩
  have hel : ex.length = n1 := he.1
  cases hev : evL ex row with
  | none =>
    have HV := Lib.hid hev
    clear hev
    go_wp2_with fail
    refine (iEval_none HV.out _ he.fresh hv.fresh).mono ?_
    rintro e w2 ⟨rfl, g2⟩
    go_wp2_with fail
    generalize hW2 : World.alloc w2 _ = W2
    obtain ⟨gW2, s2, b2⟩ := boxedB hW2
    clear hW2
    have G2 : Grow w W2 := g1.trans (g2.trans gW2)
    refine (sEval_none HV.out _ (he.fresh.grow (g2.trans gW2)) (hv.fresh.grow (g2.trans gW2))).mono ?_
    rintro e w3 ⟨rfl, g3⟩
    go_wp2_with fail
    generalize hW3 : World.alloc w3 _ = W3
    obtain ⟨gW3, s3, b3⟩ := boxedB hW3
    clear hW3
    have G3 : Grow w W3 := G2.trans (g3.trans gW3)
    refine (drawExprOk_any _ (h.grow G3)).mono ?_
    rintro e w4 ⟨A4, n4, c4, ys4, m4, rfl, he4, g4⟩
    go_wp2_with fail
    refine (drawExprText_any _ ((h.grow G3).grow g4)).mono ?_
    rintro e w5 ⟨A5, n5, c5, gx, rfl, he5, hn5, g5⟩
    obtain ⟨q, hq⟩ : ∃ q, exprB m4 ys4 = q := ⟨_, rfl⟩
    have HQ := Lib.hid hq
    clear hq
    have g25 : Grow W2 w5 := (g3.trans gW3).trans (g4.trans g5)
    have g35 : Grow W3 w5 := g4.trans g5
    have k2 := (free_of ((g25.block s2).trans b2)).1
    have k3 := (free_of ((g35.block s3).trans b3)).1
    have z2 := Nat.lt_of_lt_of_le s2 g25.size
    have z3 := Nat.lt_of_lt_of_le s3 g35.size
    have B2 := Lib.hid ((g25.block s2).trans b2)
    have B3 := Lib.hid ((g35.block s3).trans b3)
    have G5 : Grow w w5 := G3.trans g35
    have he15 := he.fresh.grow ((g2.trans gW2).trans g25)
    have hv15 := hv.fresh.grow ((g2.trans gW2).trans g25)
    have hf4 := he4.fresh.grow g5
    clear b2 b3
    go_wp2_with fail
    refine (iExprOk_eq m4 HQ.out _ hf4).mono ?_
    rintro e w6 ⟨rfl, g6⟩
    go_wp2_with fail
    refine (sExprOk_eq m4 HQ.out _ (hf4.grow g6)).mono ?_
    rintro e w7 ⟨rfl, g7⟩
    have g57 := g6.trans g7
    have G7 := G5.trans g57
    have j2 := (free_of ((g57.block z2).trans B2.out)).1
    have j3 := (free_of ((g57.block z3).trans B3.out)).1
    clear k2 k3
    go_wp2_with fail
    refine (iExprOk_eq m4 HQ.out _ (hf4.grow g57)).mono ?_
    rintro e w8 ⟨rfl, g8⟩
    go_wp2_with fail
    refine (sExprOk_eq m4 HQ.out _ ((hf4.grow g57).grow g8)).mono ?_
    rintro e w9 ⟨rfl, g9⟩
    go_wp2
    go_ret
    exact ⟨rfl, G7.trans (g8.trans g9)⟩
  | some v =>
    obtain ⟨vk, vn, vs⟩ := v
    have HV := Lib.hid hev
    have HVO := Lib.hid (evL_ok hev)
    clear hev
    go_wp2_with fail
    refine (iEval_some HV.out _ he.fresh hv.fresh).mono ?_
    rintro e w2 ⟨rfl, g2⟩
    go_wp2_with fail
    generalize hW2 : World.alloc w2 _ = W2
    obtain ⟨gW2, s2, b2⟩ := boxedB hW2
    clear hW2
    have G2 : Grow w W2 := g1.trans (g2.trans gW2)
    refine (sEval_some HV.out _ (he.fresh.grow (g2.trans gW2)) (hv.fresh.grow (g2.trans gW2))).mono ?_
    rintro e w3 ⟨rfl, g3⟩
    go_wp2_with fail
    generalize hW3 : World.alloc w3 _ = W3
    obtain ⟨gW3, s3, b3⟩ := boxedB hW3
    clear hW3
    have G3 : Grow w W3 := G2.trans (g3.trans gW3)
    refine (drawExprOk_any _ (h.grow G3)).mono ?_
    rintro e w4 ⟨A4, n4, c4, ys4, m4, rfl, he4, g4⟩
    go_wp2_with fail
    refine (drawExprText_any _ ((h.grow G3).grow g4)).mono ?_
    rintro e w5 ⟨A5, n5, c5, gx, rfl, he5, hn5, g5⟩
    obtain ⟨q, hq⟩ : ∃ q, exprB m4 ys4 = q := ⟨_, rfl⟩
    have HQ := Lib.hid hq
    clear hq
    have g25 : Grow W2 w5 := (g3.trans gW3).trans (g4.trans g5)
    have g35 : Grow W3 w5 := g4.trans g5
    have k2 := (free_of ((g25.block s2).trans b2)).1
    have k3 := (free_of ((g35.block s3).trans b3)).1
    have z2 := Nat.lt_of_lt_of_le s2 g25.size
    have z3 := Nat.lt_of_lt_of_le s3 g35.size
    have B2 := Lib.hid ((g25.block s2).trans b2)
    have B3 := Lib.hid ((g35.block s3).trans b3)
    have G5 : Grow w w5 := G3.trans g35
    have he15 := he.fresh.grow ((g2.trans gW2).trans g25)
    have hv15 := hv.fresh.grow ((g2.trans gW2).trans g25)
    have hf4 := he4.fresh.grow g5
    clear b2 b3
    go_wp2_with fail
    refine (iExprOk_eq m4 HQ.out _ hf4).mono ?_
    rintro e w6 ⟨rfl, g6⟩
    go_wp2_with fail
    refine (sExprOk_eq m4 HQ.out _ (hf4.grow g6)).mono ?_
    rintro e w7 ⟨rfl, g7⟩
    have g57 := g6.trans g7
    have G7 := G5.trans g57
    have he5' := he5.fresh.grow g57
    have hv7 := hv15.grow g57
    have he17 := he15.grow g57
    have hgl5 : gx.length = n5 := he5.1
    cases heg : evL gx row with
    | none =>
      have HG := Lib.hid heg
      clear heg k2 k3
      go_wp2_with fail
      refine (iEval_none HG.out _ he5' hv7).mono ?_
      rintro e w8 ⟨rfl, g8⟩
      have g58 := g57.trans g8
      have j2 := (free_of ((g58.block z2).trans B2.out)).1
      have z2' := Nat.lt_of_lt_of_le z2 g58.size
      go_wp2_with fail
      generalize hW8 : World.alloc w8 _ = W8
      obtain ⟨gW8, s8, b8⟩ := boxedB hW8
      clear hW8
      refine (iValOk_yes HVO.out _).mono ?_
      rintro e w9 ⟨rfl, g9⟩
      go_wp2
      go_ret
      exact ⟨rfl, G5.trans (g58.trans (gW8.trans g9))⟩
    | some u =>
      obtain ⟨uk, un, us⟩ := u
      have HG := Lib.hid heg
      clear heg k2 k3
      go_wp2_with fail
      refine (iEval_some HG.out _ he5' hv7).mono ?_
      rintro e w8 ⟨rfl, g8⟩
      have g58 := g57.trans g8
      by_cases hn : (24 : Int) < (n1 : Int) + (n5 : Int) + 1
      · have j2 := (free_of ((g58.block z2).trans B2.out)).1
        have z2' := Nat.lt_of_lt_of_le z2 g58.size
        go_wp2_with fail
        generalize hW8 : World.alloc w8 _ = W8
        obtain ⟨gW8, s8, b8⟩ := boxedB hW8
        clear hW8
        refine (iValOk_yes HVO.out _).mono ?_
        rintro e w9 ⟨rfl, g9⟩
        go_wp2
        go_ret
        exact ⟨rfl, G5.trans (g58.trans (gW8.trans g9))⟩
      · have hl23 : ex.length + gx.length ≤ 23 := by omega
        obtain ⟨xk, xn, xs', hx1, hx2⟩ := valT_told (eq3_is ⟨vk, vn, vs⟩ ⟨uk, un, us⟩)
        obtain ⟨yk, yn, ys', hy1, hy2⟩ := valT_told (less3_is ⟨vk, vn, vs⟩ ⟨uk, un, us⟩)
        have HX := Lib.hid ((ev_eq HV.out HG.out hl23).trans hx1)
        have HY := Lib.hid ((ev_less HV.out HG.out hl23).trans hy1)
        obtain ⟨r3, hr3⟩ : ∃ r, eq3 ⟨vk, vn, vs⟩ ⟨uk, un, us⟩ = r := ⟨_, rfl⟩
        obtain ⟨r4, hr4⟩ : ∃ r, less3 ⟨vk, vn, vs⟩ ⟨uk, un, us⟩ = r := ⟨_, rfl⟩
        have HX2 := Lib.hid (hx2.trans hr3)
        have HY2 := Lib.hid (hy2.trans hr4)
        have HR3 := Lib.hid hr3
        have HR4 := Lib.hid hr4
        clear hx1 hx2 hy1 hy2 hr3 hr4 hl23
        have gA := (Grow.refl w8).alloc (.cells #[.int .i64 uk, .int .i64 un, .string us] 30)
        obtain ⟨W8, hW8⟩ : ∃ W8, w8.alloc (.cells #[.int .i64 uk, .int .i64 un, .string us] 30) = W8 := ⟨_, rfl⟩
        obtain ⟨gW8, s8, b8⟩ := boxedB hW8
        have g58W : Grow w5 W8 := g58.trans gW8
        have eE := he15.grow g58W
        have eG := he5.fresh.grow g58W
        have eV := hv15.grow g58W
        go_wp2_with (first
          | (at_builtin; refine wpList_appG ones_tok elem_tok rfl (.tmp 102) (.tmp 103) (by rfl) (by rfl) (OwnG.made (B := W8.heap.size) (Nat.le_refl _)) (((Grow.refl W8).alloc _).size) (by rfl) (eE.grow ((Grow.refl W8).alloc _)) (conv_plain plain_tok) (q := n1) (by omega) (by unfold maxLen; omega) (by omega) (fun A9 c9 w9 ap9 => ?_))
          | (at_builtin; refine wpList_appG ones_tok elem_tok rfl (.tmp 104) (.tmp 105) (by rfl) (by rfl) (ap9.own) ((ap9.grow ((Grow.refl W8).alloc _) (Nat.le_refl _)).size) (by rfl) (eG.grow (ap9.grow ((Grow.refl W8).alloc _) (Nat.le_refl _))) (conv_plain plain_tok) (q := n1 + n5) rfl (by unfold maxLen; omega) (by omega) (fun A10 c10 w10 ap10 => ?_))
          | (at_builtin; refine wpList_appG ones_tok elem_tok rfl (.tmp 108) (.tmp 109) (by rfl) (by rfl) (OwnG.made (B := w10.heap.size) (Nat.le_refl _)) (((Grow.refl w10).alloc _).size) (by rfl) ((ap10.own.grow ((Grow.refl w10).alloc _)).isSl) (conv_plain plain_tok) (q := n1 + n5) (by omega) (by unfold maxLen; omega) (by omega) (fun A11 c11 w11 ap11 => ?_))
          | (at_builtin; refine wpList_appG ones_tok elem_tok rfl (.tmp 110) (.tmp 112) (by rfl) (by rfl) (ap11.own.grow ((Grow.refl w11).alloc _)) (((ap11.grow ((Grow.refl w10).alloc _) (Nat.le_refl _)).alloc _).size) (by rfl) (isSl_one (x := tk 3) (by decide) (new_block _ _) ⟨rfl, Nat.zero_le _⟩) (conv_plain plain_tok) (q := n1 + n5 + 1) rfl (by unfold maxLen; omega) (by omega) (fun A12 c12 w12 ap12 => ?_)))
        have G810 : Grow W8 w10 := (ap10.grow (ap9.grow ((Grow.refl W8).alloc _) (Nat.le_refl _)) (Nat.le_refl _))
        have G1012 : Grow w10 w12 := (ap12.grow ((ap11.grow ((Grow.refl w10).alloc _) (Nat.le_refl _)).alloc _) (Nat.le_refl _))
        have E10 := ap10.own.grow G1012
        have E12 := ap12.own.isSl.fresh
        rw [List.nil_append] at E10
        rw [List.nil_append, List.nil_append] at E12
        have G812 := G810.trans G1012
        refine (iEval_some HX.out _ E12 (eV.grow G812)).mono ?_
        rintro e w13 ⟨rfl, g13⟩
        obtain ⟨W13, hW13⟩ : ∃ W13, w13.alloc (.cells #[.int .i64 xk, .int .i64 xn, .string xs'] 30) = W13 := ⟨_, rfl⟩
        obtain ⟨gW13, s13, b13⟩ := boxedB hW13
        have E13 := E10.grow (g13.trans gW13)
        go_wp2_with (first
          | (at_builtin; refine wpList_appG ones_tok elem_tok rfl (.tmp 119) (.tmp 120) (by rfl) (by rfl) (OwnG.made (B := W13.heap.size) (Nat.le_refl _)) (((Grow.refl W13).alloc _).size) (by rfl) ((E13.grow ((Grow.refl W13).alloc _)).isSl) (conv_plain plain_tok) (q := n1 + n5) (by omega) (by unfold maxLen; omega) (by omega) (fun A14 c14 w14 ap14 => ?_))
          | (at_builtin; refine wpList_appG ones_tok elem_tok rfl (.tmp 121) (.tmp 123) (by rfl) (by rfl) (ap14.own.grow ((Grow.refl w14).alloc _)) (((ap14.grow ((Grow.refl W13).alloc _) (Nat.le_refl _)).alloc _).size) (by rfl) (isSl_one (x := tk 4) (by decide) (new_block _ _) ⟨rfl, Nat.zero_le _⟩) (conv_plain plain_tok) (q := n1 + n5 + 1) rfl (by unfold maxLen; omega) (by omega) (fun A15 c15 w15 ap15 => ?_)))
        have G1315 : Grow W13 w15 := (ap15.grow ((ap14.grow ((Grow.refl W13).alloc _) (Nat.le_refl _)).alloc _) (Nat.le_refl _))
        have E15 := ap15.own.isSl.fresh
        rw [List.nil_append] at E15
        have G8W : Grow W8 w15 := G812.trans ((g13.trans gW13).trans G1315)
        refine (iEval_some HY.out _ E15 (eV.grow G8W)).mono ?_
        rintro e w16 ⟨rfl, g16⟩
        go_wp2_with fail
        generalize hV : World.alloc w16 _ = V
        obtain ⟨gV, sV, bV⟩ := boxedB hV
        clear hV
        have t1 : Grow W8 V := G8W.trans (g16.trans gV)
        have t2 : Grow w5 V := g58W.trans t1
        have t3 : Grow W13 V := G1315.trans (g16.trans gV)
        have p2 := (free_of ((t2.block z2).trans B2.out)).1
        have p8 := (free_of ((t1.block s8).trans b8)).1
        have p13 := (free_of ((t3.block s13).trans b13)).1
        have pV := (free_of bV).1
        have y2 := Nat.lt_of_lt_of_le z2 t2.size
        have y8 := Nat.lt_of_lt_of_le s8 t1.size
        have y13 := Nat.lt_of_lt_of_le s13 t3.size
        clear b8 b13 bV
        refine wp_region_held_drew (S := (fun w' => Grow V w' ∧ Same V w')) (by kernel_rfl) (by exact Grow.both (by repeat (with_reducible first | exact Grow.refl _ | assumption | refine Grow.drew ?_ | refine Grow.alloc ?_ _ | refine Grow.set ?_ (by first | exact Nat.le_refl _ | (simp; done) | (simp; omega) | omega) _ | exact And.left (by assumption) | refine Grow.trans ?_ (by assumption)))) (fun hHeld => ?_)
        ((refine held_take (i := 0) 129 (v := ?_) rfl rfl (by kernel_rfl) (by kernel_rfl) (by kernel_rfl) (fun _ _ _ h => h) (by kernel_rfl) ?_ (by assumption) ?_; rotate_left 1; (focus (intro w hSw; (try dsimp only at hSw); go_simp; (try with_reducible rfl); done)); all_goals (try simp only [Act.put, List.setIfInBounds_toArray, List.set_cons_zero, List.set_cons_succ])))
        (refine wpAnyH_ready (rs := [1]) (by kernel_rfl) (by simp) ?_; refine AllReadyH.cons rfl (fun K hK => ?_) AllReadyH.nil; go_simp; (go_at_call 21; refine (iValOk_yes HVO.out _).mono ?_; rintro e wq ⟨rfl, hbq⟩); refine hK.out _ _ (by exact Grow.both (by repeat (with_reducible first | exact Grow.refl _ | assumption | refine Grow.drew ?_ | refine Grow.alloc ?_ _ | refine Grow.set ?_ (by first | exact Nat.le_refl _ | (simp; done) | (simp; omega) | omega) _ | exact And.left (by assumption) | refine Grow.trans ?_ (by assumption)))) (fun hHeld => ?_); clear hK K; (try refine held_put 130 rfl ?_); (try simp only [Act.put, List.setIfInBounds_toArray, List.set_cons_zero, List.set_cons_succ]))
        ((refine held_take (i := 2) 131 (v := ?_) rfl rfl (by kernel_rfl) (by kernel_rfl) (by kernel_rfl) (fun _ _ _ h => h) (by kernel_rfl) ?_ (by assumption) ?_; rotate_left 1; (focus (intro w hSw; (try dsimp only at hSw); go_simp; (try with_reducible rfl); done)); all_goals (try simp only [Act.put, List.setIfInBounds_toArray, List.set_cons_zero, List.set_cons_succ])); (refine held_take (i := 3) 132 (v := ?_) rfl rfl (by kernel_rfl) (by kernel_rfl) (by kernel_rfl) (fun _ _ _ h => h) (by kernel_rfl) ?_ (by assumption) ?_; rotate_left 1; (focus (intro w hSw; (try dsimp only at hSw); go_simp; (try with_reducible rfl); done)); all_goals (try simp only [Act.put, List.setIfInBounds_toArray, List.set_cons_zero, List.set_cons_succ])); (refine held_take (i := 4) 133 (v := ?_) rfl rfl (by kernel_rfl) (by kernel_rfl) (by kernel_rfl) (fun _ _ _ h => h) (by kernel_rfl) ?_ (by assumption) ?_; rotate_left 1; (focus (intro w hSw; (try dsimp only at hSw); go_simp; (try with_reducible rfl); done)); all_goals (try simp only [Act.put, List.setIfInBounds_toArray, List.set_cons_zero, List.set_cons_succ])); (refine held_take (i := 5) 134 (v := ?_) rfl rfl (by kernel_rfl) (by kernel_rfl) (by kernel_rfl) (fun _ _ _ h => h) (by kernel_rfl) ?_ (by assumption) ?_; rotate_left 1; (focus (intro w hSw; (try dsimp only at hSw); go_simp; (try with_reducible rfl); done)); all_goals (try simp only [Act.put, List.setIfInBounds_toArray, List.set_cons_zero, List.set_cons_succ])); (refine held_take (i := 6) 135 (v := ?_) rfl rfl (by kernel_rfl) (by kernel_rfl) (by kernel_rfl) (fun _ _ _ h => h) (by kernel_rfl) ?_ (by assumption) ?_; rotate_left 1; (focus (intro w hSw; (try dsimp only at hSw); go_simp; (try with_reducible rfl); done)); all_goals (try simp only [Act.put, List.setIfInBounds_toArray, List.set_cons_zero, List.set_cons_succ])); (refine held_take (i := 7) 136 (v := ?_) rfl rfl (by kernel_rfl) (by kernel_rfl) (by kernel_rfl) (fun _ _ _ h => h) (by kernel_rfl) ?_ (by assumption) ?_; rotate_left 1; (focus (intro w hSw; (try dsimp only at hSw); go_simp; (try with_reducible rfl); done)); all_goals (try simp only [Act.put, List.setIfInBounds_toArray, List.set_cons_zero, List.set_cons_succ])); (refine held_take (i := 8) 137 (v := ?_) rfl rfl (by kernel_rfl) (by kernel_rfl) (by kernel_rfl) (fun _ _ _ h => h) (by kernel_rfl) ?_ (by assumption) ?_; rotate_left 1; (focus (intro w hSw; (try dsimp only at hSw); go_simp; (try with_reducible rfl); done)); all_goals (try simp only [Act.put, List.setIfInBounds_toArray, List.set_cons_zero, List.set_cons_succ])); (refine held_take (i := 9) 138 (v := ?_) rfl rfl (by kernel_rfl) (by kernel_rfl) (by kernel_rfl) (fun _ _ _ h => h) (by kernel_rfl) ?_ (by assumption) ?_; rotate_left 1; (focus (intro w hSw; (try dsimp only at hSw); go_simp; (try with_reducible rfl); done)); all_goals (try simp only [Act.put, List.setIfInBounds_toArray, List.set_cons_zero, List.set_cons_succ])); (refine held_take (i := 11) 140 (v := ?_) rfl rfl (by kernel_rfl) (by kernel_rfl) (by kernel_rfl) (fun _ _ _ h => h) (by kernel_rfl) ?_ (by assumption) ?_; rotate_left 1; (focus (intro w hSw; (try dsimp only at hSw); go_simp; (try with_reducible rfl); done)); all_goals (try simp only [Act.put, List.setIfInBounds_toArray, List.set_cons_zero, List.set_cons_succ])); (refine held_take (i := 12) 141 (v := ?_) rfl rfl (by kernel_rfl) (by kernel_rfl) (by kernel_rfl) (fun _ _ _ h => h) (by kernel_rfl) ?_ (by assumption) ?_; rotate_left 1; (focus (intro w hSw; (try dsimp only at hSw); go_simp; (try with_reducible rfl); done)); all_goals (try simp only [Act.put, List.setIfInBounds_toArray, List.set_cons_zero, List.set_cons_succ])))
        (refine wpAnyH_ready (rs := [10]) (by kernel_rfl) (by simp) ?_; refine AllReadyH.cons rfl (fun K hK => ?_) AllReadyH.nil; go_simp; (go_at_call 22; refine (told3_eq HX2.out _).mono ?_; rintro e wq1 ⟨rfl, hbq1⟩); refine hK.out _ _ (by exact Grow.both (by repeat (with_reducible first | exact Grow.refl _ | assumption | refine Grow.drew ?_ | refine Grow.alloc ?_ _ | refine Grow.set ?_ (by first | exact Nat.le_refl _ | (simp; done) | (simp; omega) | omega) _ | exact And.left (by assumption) | refine Grow.trans ?_ (by assumption)))) (fun hHeld => ?_); clear hK K; (try refine held_put 139 rfl ?_); (try simp only [Act.put, List.setIfInBounds_toArray, List.set_cons_zero, List.set_cons_succ]))
        (refine wpAnyH_ready (rs := [13]) (by kernel_rfl) (by simp) ?_; refine AllReadyH.cons rfl (fun K hK => ?_) AllReadyH.nil; go_simp; (go_at_call 23; refine (iEqual3_eq HR3.out _).mono ?_; rintro e wq2 ⟨rfl, hbq2⟩); refine hK.out _ _ (by exact Grow.both (by repeat (with_reducible first | exact Grow.refl _ | assumption | refine Grow.drew ?_ | refine Grow.alloc ?_ _ | refine Grow.set ?_ (by first | exact Nat.le_refl _ | (simp; done) | (simp; omega) | omega) _ | exact And.left (by assumption) | refine Grow.trans ?_ (by assumption)))) (fun hHeld => ?_); clear hK K; (try refine held_put 142 rfl ?_); (try simp only [Act.put, List.setIfInBounds_toArray, List.set_cons_zero, List.set_cons_succ]))
        ((refine held_take (i := 14) 143 (v := ?_) rfl rfl (by kernel_rfl) (by kernel_rfl) (by kernel_rfl) (fun _ _ _ h => h) (by kernel_rfl) ?_ (by assumption) ?_; rotate_left 1; (focus (intro w hSw; (try dsimp only at hSw); go_simp; (try with_reducible rfl); done)); all_goals (try simp only [Act.put, List.setIfInBounds_toArray, List.set_cons_zero, List.set_cons_succ])); (refine held_take (i := 15) 144 (v := ?_) rfl rfl (by kernel_rfl) (by kernel_rfl) (by kernel_rfl) (fun _ _ _ h => h) (by kernel_rfl) ?_ (by assumption) ?_; rotate_left 1; (focus (intro w hSw; (try dsimp only at hSw); go_simp; (try with_reducible rfl); done)); all_goals (try simp only [Act.put, List.setIfInBounds_toArray, List.set_cons_zero, List.set_cons_succ])); (refine held_take (i := 16) 145 (v := ?_) rfl rfl (by kernel_rfl) (by kernel_rfl) (by kernel_rfl) (fun _ _ _ h => h) (by kernel_rfl) ?_ (by assumption) ?_; rotate_left 1; (focus (intro w hSw; (try dsimp only at hSw); go_simp; (try with_reducible rfl); done)); all_goals (try simp only [Act.put, List.setIfInBounds_toArray, List.set_cons_zero, List.set_cons_succ])); (refine held_take (i := 17) 146 (v := ?_) rfl rfl (by kernel_rfl) (by kernel_rfl) (by kernel_rfl) (fun _ _ _ h => h) (by kernel_rfl) ?_ (by assumption) ?_; rotate_left 1; (focus (intro w hSw; (try dsimp only at hSw); go_simp; (try with_reducible rfl); done)); all_goals (try simp only [Act.put, List.setIfInBounds_toArray, List.set_cons_zero, List.set_cons_succ])); (refine held_take (i := 19) 148 (v := ?_) rfl rfl (by kernel_rfl) (by kernel_rfl) (by kernel_rfl) (fun _ _ _ h => h) (by kernel_rfl) ?_ (by assumption) ?_; rotate_left 1; (focus (intro w hSw; (try dsimp only at hSw); go_simp; (try with_reducible rfl); done)); all_goals (try simp only [Act.put, List.setIfInBounds_toArray, List.set_cons_zero, List.set_cons_succ])); (refine held_take (i := 20) 149 (v := ?_) rfl rfl (by kernel_rfl) (by kernel_rfl) (by kernel_rfl) (fun _ _ _ h => h) (by kernel_rfl) ?_ (by assumption) ?_; rotate_left 1; (focus (intro w hSw; (try dsimp only at hSw); go_simp; (try with_reducible rfl); done)); all_goals (try simp only [Act.put, List.setIfInBounds_toArray, List.set_cons_zero, List.set_cons_succ])))
        (refine wpAnyH_ready (rs := [18]) (by kernel_rfl) (by simp) ?_; refine AllReadyH.cons rfl (fun K hK => ?_) AllReadyH.nil; go_simp; (go_at_call 22; refine (told3_eq HY2.out _).mono ?_; rintro e wq3 ⟨rfl, hbq3⟩); refine hK.out _ _ (by exact Grow.both (by repeat (with_reducible first | exact Grow.refl _ | assumption | refine Grow.drew ?_ | refine Grow.alloc ?_ _ | refine Grow.set ?_ (by first | exact Nat.le_refl _ | (simp; done) | (simp; omega) | omega) _ | exact And.left (by assumption) | refine Grow.trans ?_ (by assumption)))) (fun hHeld => ?_); clear hK K; (try refine held_put 147 rfl ?_); (try simp only [Act.put, List.setIfInBounds_toArray, List.set_cons_zero, List.set_cons_succ]))
        (refine wpAnyH_ready (rs := [21]) (by kernel_rfl) (by simp) ?_; refine AllReadyH.cons rfl (fun K hK => ?_) AllReadyH.nil; go_simp; (go_at_call 24; refine (iLess3_eq HR4.out _).mono ?_; rintro e wq4 ⟨rfl, hbq4⟩); refine hK.out _ _ (by exact Grow.both (by repeat (with_reducible first | exact Grow.refl _ | assumption | refine Grow.drew ?_ | refine Grow.alloc ?_ _ | refine Grow.set ?_ (by first | exact Nat.le_refl _ | (simp; done) | (simp; omega) | omega) _ | exact And.left (by assumption) | refine Grow.trans ?_ (by assumption)))) (fun hHeld => ?_); clear hK K; (try refine held_put 150 rfl ?_); (try simp only [Act.put, List.setIfInBounds_toArray, List.set_cons_zero, List.set_cons_succ]))
        ((refine held_take (i := 22) 151 (v := ?_) rfl rfl (by kernel_rfl) (by kernel_rfl) (by kernel_rfl) (fun _ _ _ h => h) (by kernel_rfl) ?_ (by assumption) ?_; rotate_left 1; (focus (intro w hSw; (try dsimp only at hSw); go_simp; (try with_reducible rfl); done)); all_goals (try simp only [Act.put, List.setIfInBounds_toArray, List.set_cons_zero, List.set_cons_succ])); (refine held_take (i := 23) 152 (v := ?_) rfl rfl (by kernel_rfl) (by kernel_rfl) (by kernel_rfl) (fun _ _ _ h => h) (by kernel_rfl) ?_ (by assumption) ?_; rotate_left 1; (focus (intro w hSw; (try dsimp only at hSw); go_simp; (try with_reducible rfl); done)); all_goals (try simp only [Act.put, List.setIfInBounds_toArray, List.set_cons_zero, List.set_cons_succ])))
        obtain ⟨gF, _⟩ : Grow V wq4 ∧ Same V wq4 := by assumption
        (refine held_take (i := 24) 2 (v := ?_) rfl rfl (by kernel_rfl) (by kernel_rfl) (by kernel_rfl) (fun _ _ _ h => h) (by kernel_rfl) ?_ (by assumption) ?_; rotate_left 1; (focus (intro w hSw; (try dsimp only at hSw); go_simp; (try with_reducible rfl); done)); all_goals (try simp only [Act.put, List.setIfInBounds_toArray, List.set_cons_zero, List.set_cons_succ]))
        refine wpAnyH_done (by kernel_rfl) ?_ _
        go_wp2
        go_ret
        exact ⟨rfl, G5.trans (t2.trans gF)⟩
end Go.Proofs.Ytonijaniaimgaaa
namespace Go.Proofs.Ytonijaniaimgaaa.FnEval
open Go.ChangeShapes Go.WideShapes Go.ChangeAt Go.RowKit
open Go.ChangeMaps (open_string shut_string)
theorem own : ownKnob Try.prog.godebug = none := by kernel_rfl
theorem laidOut : laidOutB Try.prog = true := by kernel_rfl
set_option maxRecDepth 100000 in
theorem lifted (os : Os) (started : os.Started) (H : Type) (enc : TypeId × Value → H) :
    ReturnsInHanded {} Try.checked os 5 .any (Rows.fnEvalSpec.pre6 enc Try.prog Try.f5 Rows.fnEvalRow.domain false) (Rows.fnEvalSpec.post enc Try.prog Try.f5 false true false false) := by
  refine returnsInHanded_of_change_sized (C := Try.checked) own started (by kernel_rfl) Try.func5
    (ChangeSpec.witness6 (enc := enc) (C := Try.checked) false ⟨#[], #[.slice none 0 0], []⟩ 8 (by kernel_rfl) (by kernel_rfl) (by kernel_rfl) (by kernel_rfl)) ?_
  intro W base args ds gs before hval0 hW hcnd hsz0 _
  have hval : ∀ (j : Nat) t v, Try.f5.params[j]? = some t → args[j]? = some v → Value.okWide Try.prog W .any base t v := hval0
  have hW' := hW
  obtain ⟨p, q, hA0, hV, rfl, hfz, hnd⟩ := hW
  have hA : DataW.TrodAll enc Try.prog W 0 (fun _ => true) true Try.f5.params.toList args.toList ds p := hA0
  rw [Try.params5] at hA hval
  obtain ⟨v0, vs0, d0, ds0, p0, q0, hargs, rfl, rfl, h0, r0⟩ := trodAll_cons hA
  obtain ⟨rfl, rfl, rfl⟩ := trodAll_nil r0
  obtain rfl : args = #[v0] := by cases args; simp_all
  obtain ⟨rfl, rfl⟩ := trodVars_none hV
  have k0 := h0
  have lt0 : ∀ x ∈ p0, x.block < W.heap.size := by obtain ⟨m, hm⟩ := k0; exact DataW.trod_lt m _ _ _ hm
  obtain ⟨A0, len0, cap0, rfl⟩ := okWide_slice Try.underlying22 (hval 0 22 v0 rfl rfl)
  obtain ⟨xs0, e0⟩ := opens_bytes.of h0
  replace e0 := isSl_of e0
  clear hA0 hval0 hsz0
  refine (law_FnEval A0 len0 cap0 xs0 e0 W rfl).mono fun e W' ⟨he, bel⟩ => ?_
  subst he
  exact ⟨_, rfl, _, _, _, [], _, [], hW', trodAll_mk1 (shut_bool Try.underlying4 _), (trodAll_cons_mk (Below.trod laidOut (by kernel_rfl) (of_decide_eq_true (by kernel_rfl)) k0 bel lt0) trodAll_mk0), rfl, Below.frame bel _, fun h => by cases h⟩
theorem over : Rows.fnEvalRow.holds Try.pinned (OpenSpec.ofChange Rows.fnEvalSpec) :=
  OpenClaim.holds_of_wide 5 Try.f5 rfl rfl rfl rfl rfl rfl rfl ⟨rfl, rfl, rfl, rfl, rfl⟩ rfl rfl rfl rfl rfl (by kernel_rfl) Try.func5 (by kernel_rfl)
    (of_decide_eq_true (by kernel_rfl)) (by unfold Func.isWrapper; first | (rw [if_pos (by decide +kernel)]; kernel_rfl) | (rw [if_neg (by decide +kernel)]; exact ⟨rfl, rfl⟩))
    (fun os started H enc _ => lifted os started H enc)
theorem proved : Rows.FnEvalSaid := over
#print axioms proved
end Go.Proofs.Ytonijaniaimgaaa.FnEval
namespace Go.Proofs.Ytonijaniaimgaaa
/-- The row, for the claim. -/
theorem fnEval_holds : Rows.FnEvalSaid := FnEval.proved
end Go.Proofs.Ytonijaniaimgaaa
