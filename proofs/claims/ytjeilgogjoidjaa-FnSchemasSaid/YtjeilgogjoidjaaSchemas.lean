import Derived.Test.YtjeilgogjoidjaaFindLaw
import Derived.Test.YtjeilgogjoidjaaDrawJ
import Derived.Test.YtjeilgogjoidjaaDrawI
import Derived.Test.YtjeilgogjoidjaaRefMem
import Derived.Test.YtjeilgogjoidjaaSchOkS
/-! The law FnSchemas, walked. -/
namespace Go.Proofs.Ytjeilgogjoidjaa
open Go.RowKit
set_option linter.unusedVariables false
set_option linter.unusedSimpArgs false
theorem sTableAt_n {A : Option Addr} {len cap : Nat} {xs : List Table} {name : ByteArray} {r : Int} (hr : tableAtV xs name = r) (w : World) (h : IsSl Kd.table w (· < w.heap.size) A len cap xs) :
    Calls Try.prog 15 #[.slice A len cap, .string name] w (Ret w (.int .i64 r)) := by subst hr; exact sTableAt_any name w h
theorem iTableAt_n {A : Option Addr} {len cap : Nat} {xs : List Table} {name : ByteArray} {r : Int} (hr : tableAtV xs name = r) (w : World) (h : IsSl Kd.table w (· < w.heap.size) A len cap xs) :
    Calls Try.prog 9 #[.slice A len cap, .string name] w (Ret w (.int .i64 r)) := by subst hr; exact iTableAt_any name w h
theorem sColAt_n {cs : List Value} {t : Table} {name : ByteArray} {r : Int} (hr : colAtV t name = r) (w : World) (h : Kd.table.rd w (· < w.heap.size) cs t) :
    Calls Try.prog 16 #[.agg cs.toArray, .string name] w (Ret w (.int .i64 r)) := by subst hr; exact sColAt_any cs t name w h
theorem iColAt_n {cs : List Value} {t : Table} {name : ByteArray} {r : Int} (hr : colAtV t name = r) (w : World) (h : Kd.table.rd w (· < w.heap.size) cs t) :
    Calls Try.prog 11 #[.agg cs.toArray, .string name] w (Ret w (.int .i64 r)) := by subst hr; exact iColAt_any cs t name w h
theorem iTableOk_n {cs : List Value} {t : Table} {r : Bool} (hr : tableOkB t = r) (w : World) (h : Kd.table.rd w (· < w.heap.size) cs t) :
    Calls Try.prog 17 #[.agg cs.toArray] w (Ret w (.bool r)) := by subst hr; exact iTableOk_any cs t w h
theorem sTableOk_n {cs : List Value} {t : Table} {r : Bool} (hr : tableOkB t = r) (w : World) (h : Kd.table.rd w (· < w.heap.size) cs t) :
    Calls Try.prog 18 #[.agg cs.toArray] w (Ret w (.bool r)) := by subst hr; exact sTableOk_any cs t w h
theorem iSchemaOk_n {A : Option Addr} {len cap : Nat} {s : List Table} {r : Bool} (hr : schemaOkB s = r) (w : World) (h : IsSl Kd.table w (· < w.heap.size) A len cap s) :
    Calls Try.prog 19 #[.slice A len cap] w (Ret w (.bool r)) := by subst hr; exact iSchemaOk_any w h
theorem sSchemaOk_n {A : Option Addr} {len cap : Nat} {s : List Table} {r : Bool} (hr : schemaOkB s = r) (w : World) (h : IsSl Kd.table w (· < w.heap.size) A len cap s) :
    Calls Try.prog 20 #[.slice A len cap] w (Ret w (.bool r)) := by subst hr; exact sSchemaOk_any w h
theorem bytes_eq {a b : ByteArray} (h : (a.toList == b.toList) = true) : a = b := by
  rw [beq_iff_eq, ByteArray.toList_eq, ByteArray.toList_eq] at h
  obtain ⟨a⟩ := a
  obtain ⟨b⟩ := b
  simp only at h
  rw [Array.toList_inj.mp h]
theorem tableAt_name {s : List Table} {nm : ByteArray} {i : Int} (h : tableAtV s nm = i) : i = -1 ∨ ∃ (k : Nat) (t : Table), i = (k : Int) ∧ s[k]? = some t ∧ t.name = nm := by
  unfold tableAtV at h
  rcases idx_cases (tabP1 nm) s with ⟨h1, _⟩ | ⟨k, x, hx, h1, h2⟩
  · exact .inl (h.symm.trans h1)
  · obtain ⟨h3, h4, _⟩ := List.findIdx?_eq_some_iff_getElem.mp h2
    rw [List.getElem?_eq_getElem h3] at hx
    cases hx
    exact .inr ⟨k, _, h.symm.trans h1, List.getElem?_eq_getElem h3, bytes_eq h4⟩
theorem colAt_name {t : Table} {nm : ByteArray} {i : Int} (h : colAtV t nm = i) : i = -1 ∨ ∃ (k : Nat) (c : Col), i = (k : Int) ∧ t.cols[k]? = some c ∧ c.name = nm := by
  unfold colAtV at h
  rcases idx_cases (colP1 nm) t.cols with ⟨h1, _⟩ | ⟨k, x, hx, h1, h2⟩
  · exact .inl (h.symm.trans h1)
  · obtain ⟨h3, h4, _⟩ := List.findIdx?_eq_some_iff_getElem.mp h2
    rw [List.getElem?_eq_getElem h3] at hx
    cases hx
    exact .inr ⟨k, _, h.symm.trans h1, List.getElem?_eq_getElem h3, bytes_eq h4⟩
theorem rd_fresh {α : Type} {k : Kd α} {w : World} {B : Nat} {cs : List Value} {x : α} (h : k.rd w (Fresh B w) cs x) : k.rd w (· < w.heap.size) cs x := k.mono h (fun b hb => hb.2.1) (fun _ _ => rfl)
set_option maxRecDepth 20000 in
set_option maxHeartbeats 16000000 in
theorem law_FnSchemas (A : Option Addr) (len cap : Nat) (xs : List Int) {W : World} (h : IsSl Kd.byte W (· < W.heap.size) A len cap xs) (w : World) (hw : w = W) :
    Calls Try.prog 3 #[.slice A len cap] w (Ret w (.bool true)) := by
  subst hw
  have hl := Nat.le_trans h.2.1 h.2.2.1
  by_cases hbig : 1048576 < len
  · go_enter Try.func3, Try.ntmps3
    go_wp2_with fail
    refine (big_yes _ hl hbig).mono ?_
    rintro e w1 ⟨rfl, rfl⟩
    go_wp2
    go_ret
    exact ⟨rfl, Grow.refl _⟩
  go_enter Try.func3, Try.ntmps3
  go_wp2_with fail
  refine (big_no _ hl hbig).mono ?_
  rintro e w0 ⟨rfl, rfl⟩
  go_wp2_with fail
  refine (drawTableAt_any _ h).mono ?_
  rintro e w1 ⟨A1, n1, c1, s, nm, rfl, hs, hn1, hnm, g1⟩
  have HS1 := Lib.hid hs.fresh
  obtain ⟨i, hi⟩ : ∃ i, tableAtV s nm = i := ⟨_, rfl⟩
  have HI := Lib.hid hi
  clear hs hi
  go_wp2_with fail
  refine (iTableAt_n HI.out _ HS1.out).mono ?_
  rintro e w2 ⟨rfl, g2⟩
  have G2 := g1.trans g2
  go_wp2_with fail
  refine (drawColAt_any _ (h.grow G2)).mono ?_
  rintro e w3 ⟨cs, t, nm2, rfl, hrd, hn2, g3⟩
  have HT3 := Lib.hid (rd_fresh hrd)
  obtain ⟨j, hj⟩ : ∃ j, colAtV t nm2 = j := ⟨_, rfl⟩
  have HJ := Lib.hid hj
  obtain ⟨Acols, Lcols, Ccols, Akey, Lkey, Ckey, Auniques, Luniques, Cuniques, Achecks, Lchecks, Cchecks, Afks, Lfks, Cfks, rfl, -⟩ := hrd
  have G3 := G2.trans g3
  clear hj
  go_wp2_with fail
  generalize hW4 : World.alloc w3 _ = w4
  obtain ⟨g4, s4, q4⟩ := boxedB hW4
  clear hW4
  refine (iColAt_n HJ.out _ (Kd.grow Kd.table HT3.out g4)).mono ?_
  rintro e w5 ⟨rfl, g5⟩
  have G5 := G3.trans (g4.trans g5)
  go_wp2_with fail
  refine (drawTableOk_any _ (h.grow G5)).mono ?_
  rintro e w6 ⟨cx, x, rfl, hrx, g6⟩
  have HX6 := Lib.hid (rd_fresh hrx)
  obtain ⟨xq, hxq⟩ : ∃ q, tableOkB x = q := ⟨_, rfl⟩
  have HX := Lib.hid hxq
  obtain ⟨Bcols, Mcols, Dcols, Bkey, Mkey, Dkey, Buniques, Muniques, Duniques, Bchecks, Mchecks, Dchecks, Bfks, Mfks, Dfks, rfl, -⟩ := hrx
  have G6 := G5.trans g6
  clear hxq
  go_wp2_with fail
  generalize hW7 : World.alloc w6 _ = w7
  obtain ⟨g7, s7, q7⟩ := boxedB hW7
  clear hW7
  have G7 := G6.trans g7
  refine (drawSchemaOk_any _ (h.grow G7)).mono ?_
  rintro e w8 ⟨A8, n8, c8, y, rfl, hy, hn8, g8⟩
  have HY8 := Lib.hid hy.fresh
  obtain ⟨yq, hyq⟩ : ∃ q, schemaOkB y = q := ⟨_, rfl⟩
  have HY := Lib.hid hyq
  have G8 := G7.trans g8
  clear hy hyq
  go_wp2_with fail
  refine (drawRefers_any _ (h.grow G8)).mono ?_
  rintro e w9 ⟨A9, n9, c9, u, v, rfl, hu, hn9, hv, g9⟩
  have HU := Lib.hid hu.fresh
  have G9 := G8.trans g9
  have g39 : Grow w3 w9 := g4.trans (g5.trans (g6.trans (g7.trans (g8.trans g9))))
  have g49 : Grow w4 w9 := g5.trans (g6.trans (g7.trans (g8.trans g9)))
  have HS := Lib.hid (HS1.out.grow (g2.trans (g3.trans g39)))
  have HT := Lib.hid (Kd.grow Kd.table HT3.out g39)
  have HXT := Lib.hid (Kd.grow Kd.table HX6.out (g7.trans (g8.trans g9)))
  have HYS := Lib.hid (HY8.out.grow g9)
  have B3 := Lib.hid ((g49.block s4).trans q4)
  have B6 := Lib.hid (((g8.trans g9).block s7).trans q7)
  have S3 : w3.heap.size < w9.heap.size := Nat.lt_of_lt_of_le s4 g49.size
  have S6 : w6.heap.size < w9.heap.size := Nat.lt_of_lt_of_le s7 (g8.trans g9).size
  clear hu q4 q7 HS1 HT3 HX6 HY8 g1 g2 g3 g4 g5 g6 g7 g8 g9 g39 g49 G2 G3 G5 G6 G7 G8 s4 s7 h hl
  go_upto_region 10 with (fail)
  go_cut [79] (fun cv wx => cv = .bool false ∧ Grow w9 wx)
  case first =>
    obtain ⟨x0, x1, x2, x3, x4, x5⟩ := cells_6 B3.out
    obtain ⟨z0, z1, z2, z3, z4, z5⟩ := cells_6 B6.out
    have gZ : Grow w9 w9.drew := (Grow.refl w9).drew
    refine wp_region_held_drew (S := (fun w' => Grow w9 w' ∧ Same w9 w')) (by kernel_rfl) (by exact Grow.both (by repeat (with_reducible first | exact Grow.refl _ | assumption | refine Grow.drew ?_ | refine Grow.alloc ?_ _ | refine Grow.set ?_ (by first | exact Nat.le_refl _ | (simp; done) | (simp; omega) | omega) _ | exact And.left (by assumption) | refine Grow.trans ?_ (by assumption)))) (fun hHeld => ?_)
    ((refine held_take (i := 0) 44 (v := ?_) rfl rfl (by kernel_rfl) (by kernel_rfl) (by kernel_rfl) (fun _ _ _ h => h) (by kernel_rfl) ?_ (by assumption) ?_; rotate_left 1; (focus (intro w hSw; (try dsimp only at hSw); go_simp; (try with_reducible rfl); done)); all_goals (try simp only [Act.put, List.setIfInBounds_toArray, List.set_cons_zero, List.set_cons_succ])); (refine held_take (i := 1) 45 (v := ?_) rfl rfl (by kernel_rfl) (by kernel_rfl) (by kernel_rfl) (fun _ _ _ h => h) (by kernel_rfl) ?_ (by assumption) ?_; rotate_left 1; (focus (intro w hSw; (try dsimp only at hSw); go_simp; (try with_reducible rfl); done)); all_goals (try simp only [Act.put, List.setIfInBounds_toArray, List.set_cons_zero, List.set_cons_succ])); (refine held_take (i := 2) 46 (v := ?_) rfl rfl (by kernel_rfl) (by kernel_rfl) (by kernel_rfl) (fun _ _ _ h => h) (by kernel_rfl) ?_ (by assumption) ?_; rotate_left 1; (focus (intro w hSw; (try dsimp only at hSw); go_simp; (try with_reducible rfl); done)); all_goals (try simp only [Act.put, List.setIfInBounds_toArray, List.set_cons_zero, List.set_cons_succ])))
    refine wpAnyH_ready (rs := [3]) (by kernel_rfl) (by simp) ?_
    refine AllReadyH.cons rfl (fun K hK => ?_) AllReadyH.nil
    go_simp
    refine (sTableAt_n HI.out _ (HS.out.grow gZ)).mono ?_; (rintro e wX ⟨rfl, gX⟩); replace gZ := gZ.trans gX; clear gX
    refine hK.out _ _ (by exact Grow.both gZ) (fun hHeld => ?_)
    clear hK K
    (try refine held_put 47 rfl ?_)
    (try simp only [Act.put, List.setIfInBounds_toArray, List.set_cons_zero, List.set_cons_succ])
    ((refine held_take (i := 4) 48 (v := ?_) rfl rfl (by kernel_rfl) (by kernel_rfl) (by kernel_rfl) (fun _ _ _ h => h) (by kernel_rfl) ?_ (by assumption) ?_; rotate_left 1; (focus (intro w hSw; (try dsimp only at hSw); go_simp; (try with_reducible rfl); done)); all_goals (try simp only [Act.put, List.setIfInBounds_toArray, List.set_cons_zero, List.set_cons_succ])); (refine held_take (i := 5) 49 (v := ?_) rfl rfl (by kernel_rfl) (by kernel_rfl) (by kernel_rfl) (fun _ _ _ h => h) (by kernel_rfl) ?_ (by assumption) ?_; rotate_left 1; (focus (intro w hSw; (try dsimp only at hSw); go_simp; (try with_reducible rfl); done)); all_goals (try simp only [Act.put, List.setIfInBounds_toArray, List.set_cons_zero, List.set_cons_succ])); (refine held_take (i := 6) 50 (v := ?_) rfl rfl (by kernel_rfl) (by kernel_rfl) (by kernel_rfl) (fun _ _ _ h => h) (by kernel_rfl) ?_ (by assumption) ?_; rotate_left 1; (focus (intro w hSw; (try dsimp only at hSw); go_simp; (try with_reducible rfl); done)); all_goals (try simp only [Act.put, List.setIfInBounds_toArray, List.set_cons_zero, List.set_cons_succ])); (refine held_take (i := 7) 51 (v := ?_) rfl rfl (by kernel_rfl) (by kernel_rfl) (by kernel_rfl) (fun _ _ _ h => h) (by kernel_rfl) ?_ (by assumption) ?_; rotate_left 1; (focus (intro w hSw; (try dsimp only at hSw); go_simp; (try with_reducible rfl); done)); all_goals (try simp only [Act.put, List.setIfInBounds_toArray, List.set_cons_zero, List.set_cons_succ])); (refine held_take (i := 8) 52 (v := ?_) rfl rfl (by kernel_rfl) (by kernel_rfl) (by kernel_rfl) (fun _ _ _ h => h) (by kernel_rfl) ?_ (by assumption) ?_; rotate_left 1; (focus (intro w hSw; (try dsimp only at hSw); go_simp; (try with_reducible rfl); done)); all_goals (try simp only [Act.put, List.setIfInBounds_toArray, List.set_cons_zero, List.set_cons_succ])))
    refine wpAnyH_ready (rs := [9]) (by kernel_rfl) (by simp) ?_
    refine AllReadyH.cons rfl (fun K hK => ?_) AllReadyH.nil
    go_simp
    refine (sColAt_n HJ.out _ (Kd.grow Kd.table HT.out gZ)).mono ?_; (rintro e wX ⟨rfl, gX⟩); replace gZ := gZ.trans gX; clear gX
    refine hK.out _ _ (by exact Grow.both gZ) (fun hHeld => ?_)
    clear hK K
    (try refine held_put 53 rfl ?_)
    (try simp only [Act.put, List.setIfInBounds_toArray, List.set_cons_zero, List.set_cons_succ])
    ((refine held_take (i := 10) 54 (v := ?_) rfl rfl (by kernel_rfl) (by kernel_rfl) (by kernel_rfl) (fun _ _ _ h => h) (by kernel_rfl) ?_ (by assumption) ?_; rotate_left 1; (focus (intro w hSw; (try dsimp only at hSw); go_simp; (try with_reducible rfl); done)); all_goals (try simp only [Act.put, List.setIfInBounds_toArray, List.set_cons_zero, List.set_cons_succ])); (refine held_take (i := 11) 55 (v := ?_) rfl rfl (by kernel_rfl) (by kernel_rfl) (by kernel_rfl) (fun _ _ _ h => h) (by kernel_rfl) ?_ (by assumption) ?_; rotate_left 1; (focus (intro w hSw; (try dsimp only at hSw); go_simp; (try with_reducible rfl); done)); all_goals (try simp only [Act.put, List.setIfInBounds_toArray, List.set_cons_zero, List.set_cons_succ])); (refine held_take (i := 12) 56 (v := ?_) rfl rfl (by kernel_rfl) (by kernel_rfl) (by kernel_rfl) (fun _ _ _ h => h) (by kernel_rfl) ?_ (by assumption) ?_; rotate_left 1; (focus (intro w hSw; (try dsimp only at hSw); go_simp; (try with_reducible rfl); done)); all_goals (try simp only [Act.put, List.setIfInBounds_toArray, List.set_cons_zero, List.set_cons_succ])); (refine held_take (i := 13) 57 (v := ?_) rfl rfl (by kernel_rfl) (by kernel_rfl) (by kernel_rfl) (fun _ _ _ h => h) (by kernel_rfl) ?_ (by assumption) ?_; rotate_left 1; (focus (intro w hSw; (try dsimp only at hSw); go_simp; (try with_reducible rfl); done)); all_goals (try simp only [Act.put, List.setIfInBounds_toArray, List.set_cons_zero, List.set_cons_succ])); (refine held_take (i := 15) 59 (v := ?_) rfl rfl (by kernel_rfl) (by kernel_rfl) (by kernel_rfl) (fun _ _ _ h => h) (by kernel_rfl) ?_ (by assumption) ?_; rotate_left 1; (focus (intro w hSw; (try dsimp only at hSw); go_simp; (try with_reducible rfl); done)); all_goals (try simp only [Act.put, List.setIfInBounds_toArray, List.set_cons_zero, List.set_cons_succ])))
    refine wpAnyH_ready (rs := [14]) (by kernel_rfl) (by simp) ?_
    refine AllReadyH.cons rfl (fun K hK => ?_) AllReadyH.nil
    go_simp
    refine (iTableOk_n HX.out _ (Kd.grow Kd.table HXT.out gZ)).mono ?_; (rintro e wX ⟨rfl, gX⟩); replace gZ := gZ.trans gX; clear gX
    refine hK.out _ _ (by exact Grow.both gZ) (fun hHeld => ?_)
    clear hK K
    (try refine held_put 58 rfl ?_)
    (try simp only [Act.put, List.setIfInBounds_toArray, List.set_cons_zero, List.set_cons_succ])
    refine wpAnyH_ready (rs := [16]) (by kernel_rfl) (by simp) ?_
    refine AllReadyH.cons rfl (fun K hK => ?_) AllReadyH.nil
    go_simp
    refine (sTableOk_n HX.out _ (Kd.grow Kd.table HXT.out gZ)).mono ?_; (rintro e wX ⟨rfl, gX⟩); replace gZ := gZ.trans gX; clear gX
    refine hK.out _ _ (by exact Grow.both gZ) (fun hHeld => ?_)
    clear hK K
    (try refine held_put 60 rfl ?_)
    (try simp only [Act.put, List.setIfInBounds_toArray, List.set_cons_zero, List.set_cons_succ])
    ((refine held_take (i := 17) 61 (v := ?_) rfl rfl (by kernel_rfl) (by kernel_rfl) (by kernel_rfl) (fun _ _ _ h => h) (by kernel_rfl) ?_ (by assumption) ?_; rotate_left 1; (focus (intro w hSw; (try dsimp only at hSw); go_simp; (try with_reducible rfl); done)); all_goals (try simp only [Act.put, List.setIfInBounds_toArray, List.set_cons_zero, List.set_cons_succ])); (refine held_take (i := 18) 62 (v := ?_) rfl rfl (by kernel_rfl) (by kernel_rfl) (by kernel_rfl) (fun _ _ _ h => h) (by kernel_rfl) ?_ (by assumption) ?_; rotate_left 1; (focus (intro w hSw; (try dsimp only at hSw); go_simp; (try with_reducible rfl); done)); all_goals (try simp only [Act.put, List.setIfInBounds_toArray, List.set_cons_zero, List.set_cons_succ])); (refine held_take (i := 19) 63 (v := ?_) rfl rfl (by kernel_rfl) (by kernel_rfl) (by kernel_rfl) (fun _ _ _ h => h) (by kernel_rfl) ?_ (by assumption) ?_; rotate_left 1; (focus (intro w hSw; (try dsimp only at hSw); go_simp; (try with_reducible rfl); done)); all_goals (try simp only [Act.put, List.setIfInBounds_toArray, List.set_cons_zero, List.set_cons_succ])); (refine held_take (i := 20) 64 (v := ?_) rfl rfl (by kernel_rfl) (by kernel_rfl) (by kernel_rfl) (fun _ _ _ h => h) (by kernel_rfl) ?_ (by assumption) ?_; rotate_left 1; (focus (intro w hSw; (try dsimp only at hSw); go_simp; (try with_reducible rfl); done)); all_goals (try simp only [Act.put, List.setIfInBounds_toArray, List.set_cons_zero, List.set_cons_succ])); (refine held_take (i := 22) 66 (v := ?_) rfl rfl (by kernel_rfl) (by kernel_rfl) (by kernel_rfl) (fun _ _ _ h => h) (by kernel_rfl) ?_ (by assumption) ?_; rotate_left 1; (focus (intro w hSw; (try dsimp only at hSw); go_simp; (try with_reducible rfl); done)); all_goals (try simp only [Act.put, List.setIfInBounds_toArray, List.set_cons_zero, List.set_cons_succ])))
    refine wpAnyH_ready (rs := [21]) (by kernel_rfl) (by simp) ?_
    refine AllReadyH.cons rfl (fun K hK => ?_) AllReadyH.nil
    go_simp
    refine (iSchemaOk_n HY.out _ (HYS.out.grow gZ)).mono ?_; (rintro e wX ⟨rfl, gX⟩); replace gZ := gZ.trans gX; clear gX
    refine hK.out _ _ (by exact Grow.both gZ) (fun hHeld => ?_)
    clear hK K
    (try refine held_put 65 rfl ?_)
    (try simp only [Act.put, List.setIfInBounds_toArray, List.set_cons_zero, List.set_cons_succ])
    refine wpAnyH_ready (rs := [23]) (by kernel_rfl) (by simp) ?_
    refine AllReadyH.cons rfl (fun K hK => ?_) AllReadyH.nil
    go_simp
    refine (sSchemaOk_n HY.out _ (HYS.out.grow gZ)).mono ?_; (rintro e wX ⟨rfl, gX⟩); replace gZ := gZ.trans gX; clear gX
    refine hK.out _ _ (by exact Grow.both gZ) (fun hHeld => ?_)
    clear hK K
    (try refine held_put 67 rfl ?_)
    (try simp only [Act.put, List.setIfInBounds_toArray, List.set_cons_zero, List.set_cons_succ])
    ((refine held_take (i := 24) 68 (v := ?_) rfl rfl (by kernel_rfl) (by kernel_rfl) (by kernel_rfl) (fun _ _ _ h => h) (by kernel_rfl) ?_ (by assumption) ?_; rotate_left 1; (focus (intro w hSw; (try dsimp only at hSw); go_simp; (try with_reducible rfl); done)); all_goals (try simp only [Act.put, List.setIfInBounds_toArray, List.set_cons_zero, List.set_cons_succ])); (refine held_take (i := 25) 69 (v := ?_) rfl rfl (by kernel_rfl) (by kernel_rfl) (by kernel_rfl) (fun _ _ _ h => h) (by kernel_rfl) ?_ (by assumption) ?_; rotate_left 1; (focus (intro w hSw; (try dsimp only at hSw); go_simp; (try with_reducible rfl); done)); all_goals (try simp only [Act.put, List.setIfInBounds_toArray, List.set_cons_zero, List.set_cons_succ])); (refine held_take (i := 26) 70 (v := ?_) rfl rfl (by kernel_rfl) (by kernel_rfl) (by kernel_rfl) (fun _ _ _ h => h) (by kernel_rfl) ?_ (by assumption) ?_; rotate_left 1; (focus (intro w hSw; (try dsimp only at hSw); go_simp; (try with_reducible rfl); done)); all_goals (try simp only [Act.put, List.setIfInBounds_toArray, List.set_cons_zero, List.set_cons_succ])); (refine held_take (i := 27) 71 (v := ?_) rfl rfl (by kernel_rfl) (by kernel_rfl) (by kernel_rfl) (fun _ _ _ h => h) (by kernel_rfl) ?_ (by assumption) ?_; rotate_left 1; (focus (intro w hSw; (try dsimp only at hSw); go_simp; (try with_reducible rfl); done)); all_goals (try simp only [Act.put, List.setIfInBounds_toArray, List.set_cons_zero, List.set_cons_succ])); (refine held_take (i := 28) 72 (v := ?_) rfl rfl (by kernel_rfl) (by kernel_rfl) (by kernel_rfl) (fun _ _ _ h => h) (by kernel_rfl) ?_ (by assumption) ?_; rotate_left 1; (focus (intro w hSw; (try dsimp only at hSw); go_simp; (try with_reducible rfl); done)); all_goals (try simp only [Act.put, List.setIfInBounds_toArray, List.set_cons_zero, List.set_cons_succ])); (refine held_take (i := 30) 74 (v := ?_) rfl rfl (by kernel_rfl) (by kernel_rfl) (by kernel_rfl) (fun _ _ _ h => h) (by kernel_rfl) ?_ (by assumption) ?_; rotate_left 1; (focus (intro w hSw; (try dsimp only at hSw); go_simp; (try with_reducible rfl); done)); all_goals (try simp only [Act.put, List.setIfInBounds_toArray, List.set_cons_zero, List.set_cons_succ])); (refine held_take (i := 31) 75 (v := ?_) rfl rfl (by kernel_rfl) (by kernel_rfl) (by kernel_rfl) (fun _ _ _ h => h) (by kernel_rfl) ?_ (by assumption) ?_; rotate_left 1; (focus (intro w hSw; (try dsimp only at hSw); go_simp; (try with_reducible rfl); done)); all_goals (try simp only [Act.put, List.setIfInBounds_toArray, List.set_cons_zero, List.set_cons_succ])))
    refine wpAnyH_ready (rs := [29]) (by kernel_rfl) (by simp) ?_
    refine AllReadyH.cons rfl (fun K hK => ?_) AllReadyH.nil
    go_simp
    refine (iRefers_any v _ (HU.out.grow gZ)).mono ?_; (rintro e wX ⟨P1, l1, d1, rfl, TI, gX⟩); replace gZ := gZ.trans gX; replace TI := TI.fresh; clear gX
    refine hK.out _ _ (by exact Grow.both gZ) (fun hHeld => ?_)
    clear hK K
    (try refine held_put 73 rfl ?_)
    (try simp only [Act.put, List.setIfInBounds_toArray, List.set_cons_zero, List.set_cons_succ])
    refine wpAnyH_ready (rs := [32]) (by kernel_rfl) (by simp) ?_
    refine AllReadyH.cons rfl (fun K hK => ?_) AllReadyH.nil
    go_simp
    refine (sRefers_any v _ (HU.out.grow gZ)).mono ?_; (rintro e wX ⟨P2, l2, d2, rfl, TS, gX⟩); replace gZ := gZ.trans gX; replace TI := TI.grow gX; replace TS := TS.fresh; clear gX
    refine hK.out _ _ (by exact Grow.both gZ) (fun hHeld => ?_)
    clear hK K
    (try refine held_put 76 rfl ?_)
    (try simp only [Act.put, List.setIfInBounds_toArray, List.set_cons_zero, List.set_cons_succ])
    refine wpAnyH_ready (rs := [33]) (by kernel_rfl) (by simp) ?_
    refine AllReadyH.cons rfl (fun K hK => ?_) AllReadyH.nil
    go_simp
    refine (sameInts_same _ TI TS).mono ?_; (rintro e wX ⟨rfl, gX⟩); replace gZ := gZ.trans gX; clear gX
    refine hK.out _ _ (by exact Grow.both gZ) (fun hHeld => ?_)
    clear hK K
    (try refine held_put 77 rfl ?_)
    (try simp only [Act.put, List.setIfInBounds_toArray, List.set_cons_zero, List.set_cons_succ])
    ((refine held_take (i := 34) 78 (v := ?_) rfl rfl (by kernel_rfl) (by kernel_rfl) (by kernel_rfl) (fun _ _ _ h => h) (by kernel_rfl) ?_ (by assumption) ?_; rotate_left 1; (focus (intro w hSw; (try dsimp only at hSw); go_simp; (try with_reducible rfl); done)); all_goals (try simp only [Act.put, List.setIfInBounds_toArray, List.set_cons_zero, List.set_cons_succ])); (refine held_take (i := 35) 79 (v := ?_) rfl rfl (by kernel_rfl) (by kernel_rfl) (by kernel_rfl) (fun _ _ _ h => h) (by kernel_rfl) ?_ (by assumption) ?_; rotate_left 1; (focus (intro w hSw; (try dsimp only at hSw); go_simp; (try with_reducible rfl); done)); all_goals (try simp only [Act.put, List.setIfInBounds_toArray, List.set_cons_zero, List.set_cons_succ])))
    refine wpAnyH_done (by kernel_rfl) ?_ _
    go_wp2_with fail
    go_meet
    exact ⟨rfl, gZ⟩
  case rest =>
    obtain ⟨rfl, hcut⟩ := hcut
    have G10 := G9.trans hcut
    have HSc := Lib.hid (HS.out.grow hcut)
    have HTc := Lib.hid (rd_cols (Kd.grow Kd.table HT.out hcut))
    have HUc := Lib.hid (HU.out.grow hcut)
    have q3 := (hcut.block S3).trans B3.out
    have s3 := Nat.lt_of_lt_of_le S3 hcut.size
    clear HS HT HU HXT HYS B3 B6 S3 S6 hcut G9
    obtain ⟨wd, hwd⟩ : ∃ wd, wd = wc := ⟨_, rfl⟩
    subst hwd
    go_upto_region 12 with (fail)
    go_cut [104] (fun cv wx => cv = .bool false ∧ wx = wd)
    case first =>
      obtain ⟨x0, x1, x2, x3, x4, x5⟩ := cells_6 q3
      have hi := tableAt_name HI.out
      have hj := colAt_name HJ.out
      clear HI HJ
      rcases hi with rfl | ⟨ki, ti, rfl, hki, rfl⟩ <;> rcases hj with rfl | ⟨kj, cj, rfl, hkj, rfl⟩
      · go_wp2_with fail
        go_meet
        exact ⟨rfl, rfl⟩
      · have hlt : kj < Lcols := by rw [← HTc.out.1]; exact (List.getElem?_eq_some_iff.mp hkj).1
        obtain ⟨bc, oc, cx, hA, hcx, hSc, hbc, hcn, hcd, e0, e1, e2, e3, e4, e5, _⟩ := col_at HTc.out hlt
        obtain rfl : cx = cj := Option.some.inj (hcx.out.symm.trans hkj)
        subst hA
        have i0 : (0 : Int) ≤ (kj : Int) := Int.natCast_nonneg kj
        have i1 : (kj : Int) < (Lcols : Int) := Int.ofNat_lt.mpr hlt
        clear hcx hkj
        go_wp2_with fail
        go_meet
        exact ⟨rfl, rfl⟩
      · have hlt : ki < n1 := by rw [← HSc.out.1]; exact (List.getElem?_eq_some_iff.mp hki).1
        obtain ⟨bT, oT, tx, T0, p0, m0, T1, p1, m1, T2, p2, m2, T3, p3, m3, T4, p4, m4, hA, hx, hST, hbT, hnm, f0, _⟩ := table_at HSc.out hlt
        obtain rfl : tx = ti := Option.some.inj (hx.out.symm.trans hki)
        subst hA
        have i0 : (0 : Int) ≤ (ki : Int) := Int.natCast_nonneg ki
        have i1 : (ki : Int) < (n1 : Int) := Int.ofNat_lt.mpr hlt
        clear hx hki
        go_wp2_with fail
        go_meet
        exact ⟨rfl, rfl⟩
      · have hlt : ki < n1 := by rw [← HSc.out.1]; exact (List.getElem?_eq_some_iff.mp hki).1
        obtain ⟨bT, oT, tx, T0, p0, m0, T1, p1, m1, T2, p2, m2, T3, p3, m3, T4, p4, m4, hA, hx, hST, hbT, hnm, f0, _⟩ := table_at HSc.out hlt
        obtain rfl : tx = ti := Option.some.inj (hx.out.symm.trans hki)
        subst hA
        have i0 : (0 : Int) ≤ (ki : Int) := Int.natCast_nonneg ki
        have i1 : (ki : Int) < (n1 : Int) := Int.ofNat_lt.mpr hlt
        have hlt2 : kj < Lcols := by rw [← HTc.out.1]; exact (List.getElem?_eq_some_iff.mp hkj).1
        obtain ⟨bc, oc, cx, hA, hcx, hSc, hbc, hcn, hcd, e0, e1, e2, e3, e4, e5, _⟩ := col_at HTc.out hlt2
        obtain rfl : cx = cj := Option.some.inj (hcx.out.symm.trans hkj)
        subst hA
        have i2 : (0 : Int) ≤ (kj : Int) := Int.natCast_nonneg kj
        have i3 : (kj : Int) < (Lcols : Int) := Int.ofNat_lt.mpr hlt2
        clear hcx hkj hx hki
        go_wp2_with fail
        go_meet
        exact ⟨rfl, rfl⟩
    case rest =>
      obtain ⟨rfl, rfl⟩ := hcut
      obtain ⟨q, hq⟩ : ∃ q, schemaOkB u = q := ⟨_, rfl⟩
      have HQ := Lib.hid hq
      clear hq q3 s3 HSc HTc
      go_wp2_with fail
      refine (iRefers_any v wc HUc.out).mono ?_
      rintro e w13 ⟨P, l, dl, rfl, hl13, g13⟩
      have HL := Lib.hid hl13.fresh
      have HU13 := Lib.hid (HUc.out.grow g13)
      have G13 := G10.trans g13
      have hn9' : n9 ≤ 3 := hn9
      clear hl13 HUc
      go_wp2_with fail
      go_loopw [14, 15, 16] (fun iv _ _ wr => ∃ k : Nat, k ≤ n9 ∧ iv = .int .i64 k ∧ Grow w13 wr) (fun iv _ _ _ => n9 - (intOf iv).toNat)
      case atStart => exact ⟨0, Nat.zero_le _, rfl, Grow.refl _⟩
      case round =>
        obtain ⟨k, hk, rfl, hg⟩ := hrel
        by_cases hlt : k < n9
        · have i0 : (0 : Int) ≤ (k : Int) := Int.natCast_nonneg k
          have i1 : (k : Int) < (n9 : Int) := Int.ofNat_lt.mpr hlt
          go_wp2_with fail
          refine (sSchemaOk_n HQ.out _ (HU13.out.grow hg)).mono ?_
          rintro e w14 ⟨rfl, g14⟩
          have G14 := hg.trans g14
          cases q with
          | false =>
            go_wp2
            go_ret
            exact ⟨rfl, G13.trans G14⟩
          | true =>
            obtain ⟨bT, oT, t9, T0, p0, m0, T1, p1, m1, T2, p2, m2, T3, p3, m3, T4, p4, m4, rfl, hx, hST, hbT, hnm, f0, f1, f2, f3, f4, f5, _, _, _, _, sfk, _⟩ := table_at (HU13.out.grow G14) hlt
            have HFK := Lib.hid sfk
            have hp4 : p4 ≤ 9223372036854775807 := by have h1 := sfk.2.1; have h2 := sfk.2.2.1; unfold maxLen at h2; omega
            have HREF := Lib.hid (refersV_mem (name := v) HQ.out hx.out)
            clear sfk hx f0 f1 f2 f3 f4
            go_wp2_with fail
            go_loopw [15, 16] (fun fv kv wr => ∃ j : Nat, j ≤ p4 ∧ kv = .int .i64 j ∧ fv = .bool ((t9.fks.take j).any (refP v)) ∧ wr = w14) (fun _ kv _ => p4 - (intOf kv).toNat)
            case atStart => exact ⟨0, Nat.zero_le _, rfl, by simp, rfl⟩
            case round =>
              obtain ⟨j, hj, rfl, rfl, rfl⟩ := hrel
              obtain ⟨fl, hfl⟩ : ∃ b, (t9.fks.take j).any (refP v) = b := ⟨_, rfl⟩
              rw [hfl]
              have HFL := Lib.hid hfl
              clear hfl
              by_cases hjl : j < p4
              · obtain ⟨bF, oF, f, Fc, fl0, fc0, rfl, hfx, _, hbF, hfn, h0, h1, h2, h3, h4, _, _⟩ := fk_at HFK.out hjl
                have l0 : (0 : Int) ≤ (j : Int) := Int.natCast_nonneg j
                have l1 : (j : Int) < (p4 : Int) := Int.ofNat_lt.mpr hjl
                have HNX : Hid ((t9.fks.take (j + 1)).any (refP v) = (fl || (f.table.toList == v.toList))) := Lib.hid (by
                  obtain ⟨hk', hxe⟩ := List.getElem?_eq_some_iff.mp hfx.out
                  rw [List.take_succ_eq_append_getElem hk', List.any_append, hxe, HFL.out]
                  simp [refP])
                clear hfx
                cases fl with
                | true =>
                  go_wp2
                  go_roundw
                  case rel => exact ⟨j + 1, by omega, by go_num, by rw [HNX.out]; rfl, by simp⟩
                  case measure => simp [intOf]; omega
                | false =>
                  cases hft : (f.table.toList == v.toList) with
                  | true =>
                    go_wp2
                    go_roundw
                    case rel => exact ⟨j + 1, by omega, by go_num, by rw [HNX.out, hft]; rfl, by simp⟩
                    case measure => simp [intOf]; omega
                  | false =>
                    go_wp2
                    go_roundw
                    case rel => exact ⟨j + 1, by omega, by go_num, by rw [HNX.out, hft]; rfl, by simp⟩
                    case measure => simp [intOf]; omega
              · obtain rfl : j = p4 := by omega
                have hfull : refT v t9 = fl := by
                  have := HFL.out
                  rw [List.take_of_length_le (by rw [HFK.out.1]; exact Nat.le_refl _)] at this
                  exact this
                have HR := Lib.hid (HREF.out.trans hfull)
                clear hfull
                go_wp2_with fail
                refine (hasInt_eq (k : Int) HR.out _ (HL.out.grow G14)).mono ?_
                rintro e w15 ⟨rfl, g15⟩
                go_wp2
                go_roundw
                case rel => exact ⟨k + 1, by omega, by go_num, G14.trans g15⟩
                case measure => simp [intOf]; omega
        · obtain rfl : k = n9 := by omega
          go_wp2
          go_ret
          exact ⟨rfl, G13.trans hg⟩
end Go.Proofs.Ytjeilgogjoidjaa
