import Derived.Test.YtjeilgogjoidjaaBundleA
/-! What is drawn for FindRows and KeyOf. -/
namespace Go.Proofs.Ytjeilgogjoidjaa
open Go.RowKit
set_option linter.unusedVariables false
set_option linter.unusedSimpArgs false
theorem drawKeyOf_any {A : Option Addr} {len cap : Nat} {xs : List Int} (w : World) (h : IsSl Kd.byte w (· < w.heap.size) A len cap xs) :
    Calls Try.prog 39 #[.slice A len cap] w (fun e w' => ∃ (B C : Option Addr) (n c m d : Nat) (ys : List Int) (vs : List Val), e = .returned (.tuple #[.slice B n c, .slice C m d]) ∧
      IsSl Kd.int w' (Fresh w.heap.size w') B n c ys ∧ IsSl Kd.val w' (Fresh w.heap.size w') C m d vs ∧ n ≤ 2 ∧ Grow w w') := by
  go_enter Try.func39, Try.ntmps39
  go_wp2_with fail
  refine (l1Open_any w h).mono ?_
  rintro e w1 ⟨g, rfl, hg, hG1, hR1⟩
  have hgl := hR1.lt
  go_wp2_with fail
  refine (vals_any g 3 (by decide) 3 rfl _ hR1).mono ?_
  rintro e w2 ⟨A2, n2, c2, vs, rfl, own2, hx2, hG2, hR2⟩
  go_wp2_with fail
  generalize hW : World.alloc w2 _ = W2
  have own0 : OwnG Kd.int 2 w2.heap.size W2 (some ⟨w2.heap.size, 0, none⟩) 0 0 [] := by rw [← hW]; exact OwnG.made (Nat.le_refl _)
  have gW2 : Grow w2 W2 := by rw [← hW]; exact (Grow.refl _).alloc _
  clear hW
  refine (below_any g 3 _ (hR2.of_grow gW2) (by decide)).mono ?_
  rintro e w3 ⟨y, rfl, hy, hG3, hR3⟩
  have hy0 : 0 ≤ y ∧ y ≤ 2 := by unfold RdBelow at hy; omega
  have hg2 : g < w2.heap.size := hR2.lt
  have own3 := own0.growX hG3 hg2
  have G23 : GrowX g w2 w3 := (GrowX.of gW2).trans hG3
  have hw12 : w1.heap.size ≤ w2.heap.size := hG2.size
  go_wp2
  go_loopw [6, 7] (fun sv kv wr => ∃ (q l c : Nat) (P : Option Addr) (ys : List Int), kv = .int .i64 q ∧ sv = .slice P l c ∧ l + q ≤ 2 ∧ OwnG Kd.int 2 w2.heap.size wr P l c ys ∧ GrowX g w2 wr ∧ IsRd wr g) (fun _ kv _ => (intOf kv).toNat)
  case atStart => exact ⟨y.toNat, 0, 0, _, [], by congr 1; omega, rfl, by omega, own3, G23, hR3⟩
  case round =>
    obtain ⟨q, l, c, P, ys, rfl, rfl, hlq, own, hG, hR⟩ := hrel
    by_cases hq : 0 < q
    · have hq' : (0 : Int) < (q : Int) := by omega
      go_wp2_with fail
      refine (off_any g _ _ _ hR (by decide) (by decide)).mono ?_
      rintro e w4 ⟨z, rfl, _, hG4, hR4⟩
      have own4 := own.growX hG4 hg2
      have G4 := hG.trans hG4
      go_wp2_with (at_builtin; refine wpList_appG ones_int elem_int rfl (.tmp 19) (.tmp 22) (by rfl) (by rfl) (own4.grow ((Grow.refl w4).alloc _)) ((G4.alloc _).size) (by rfl) (isSl_one (x := z) (by decide) (new_block _ _) rfl) (conv_plain plain_int) (q := l + 1) rfl (by unfold maxLen; omega) (by omega) (fun A6 c6 w6 ap6 => ?_))
      have G6 : GrowX g w2 w6 := ap6.growX (G4.alloc _) (Nat.le_refl _)
      have R6 := ap6.rd (hR4.of_grow ((Grow.refl _).alloc _)) hg2
      go_roundw
      case rel => exact ⟨q - 1, l + 1, c6, A6, _, by congr 1; omega, rfl, by omega, ap6.own, G6, R6⟩
      case measure => simp [intOf]; omega
    · obtain rfl : q = 0 := by omega
      go_wp2
      go_ret2
      exact ⟨P, A2, l, c, n2, c2, ys, vs, rfl, own.isSl.lower (Nat.le_trans hG1.size hw12), ((own2.growX hG hgl).low hG1.size).isSl, by omega, (hG2.trans hG).grow hG1 hg⟩
theorem isl_growX {α : Type} {k : Kd α} {g B : Nat} {w w' : World} {A : Option Addr} {n c : Nat} {xs : List α} (h : IsSl k w (Fresh B w) A n c xs) (hG : GrowX g w w') (hg : g < B) : IsSl k w' (Fresh B w') A n c xs :=
  h.mono (fun b hb => hb.step hG.size (hG.block b hb.2.1 (by have := hb.1; omega))) (fun b hb => hG.block b hb.2.1 (by have := hb.1; omega))
/-- A database, a table's number, one column and one value. -/
def FindDrawn (w : World) (e : Ending) (w' : World) : Prop := ∃ (A B C D : Option Addr) (n c m d e1 e2 : Nat) (s : List Table) (db : List Data) (z y : Int) (v : Val),
  e = .returned (.tuple #[.slice A n c, .slice B m d, .int .i64 z, .slice C 1 e1, .slice D 1 e2]) ∧
  IsSl Kd.table w' (Fresh w.heap.size w') A n c s ∧ IsSl Kd.data w' (Fresh w.heap.size w') B m d db ∧ IsSl Kd.int w' (Fresh w.heap.size w') C 1 e1 [y] ∧ IsSl Kd.val w' (Fresh w.heap.size w') D 1 e2 [v] ∧ n ≤ 3 ∧ Grow w w'
set_option maxRecDepth 20000 in
set_option maxHeartbeats 8000000 in
theorem drawFindRows_any {A : Option Addr} {len cap : Nat} {xs : List Int} (w : World) (h : IsSl Kd.byte w (· < w.heap.size) A len cap xs) :
    Calls Try.prog 36 #[.slice A len cap] w (FindDrawn w) := by
  go_enter Try.func36, Try.ntmps36
  go_wp2_with fail
  refine (l1Open_any w h).mono ?_
  rintro e w1 ⟨g, rfl, hg, hG1, hR1⟩
  have hgl := hR1.lt
  have hw1 := hG1.size
  go_wp2_with fail
  refine (schema_any g _ hR1).mono ?_
  rintro e w2 ⟨A2, n2, c2, s2, rfl, own2, h1, h3, hb, hG2, hR2⟩
  go_wp2_with fail
  refine (raw_any g _ hR2 (isl_apart own2.isSl hgl) (by omega) hb).mono ?_
  rintro e w3 ⟨A3, m3, c3, db, rfl, sd, hm, hdb, hG3, hR3⟩
  go_wp2_with fail
  refine (off_any g _ _ _ hR3 (by decide) (by omega)).mono ?_
  rintro e w4 ⟨z, rfl, _, hG4, hR4⟩
  go_wp2_with fail
  refine (below_any g 2 _ hR4 (by decide)).mono ?_
  rintro e w5 ⟨y, rfl, hy, hG5, hR5⟩
  have hy0 : 0 ≤ y ∧ y ≤ 1 := by unfold RdBelow at hy; omega
  obtain ⟨yn, rfl⟩ : ∃ yn : Nat, y = (yn : Int) := ⟨y.toNat, by omega⟩
  go_wp2_with fail
  generalize hW : World.alloc w5 _ = W5
  obtain ⟨gW5, s5, b5⟩ := boxedB hW
  clear hW hy
  refine (val_any g _ (hR5.of_grow gW5)).mono ?_
  rintro e w6 ⟨v, rfl, hv, hvz, hG6, hR6⟩
  go_upto_region 7 with (fail)
  generalize hW7 : World.alloc w6 _ = W7
  obtain ⟨gW7, s7, b7⟩ := boxedB hW7
  have hg5 : g < w5.heap.size := hR5.lt
  have hg6 : g < w6.heap.size := hR6.lt
  have hG17 : GrowX g w1 W7 := hG2.trans (hG3.trans (hG4.trans (hG5.trans ((GrowX.of gW5).trans (hG6.trans (GrowX.of gW7))))))
  have hG37 : GrowX g w3 W7 := hG4.trans (hG5.trans ((GrowX.of gW5).trans (hG6.trans (GrowX.of gW7))))
  have hR7 := hR6.of_grow gW7
  have sT : IsSl Kd.table W7 (Fresh w1.heap.size W7) A2 n2 c2 s2 := (own2.growX (hG3.trans hG37) hgl).isSl
  have sD : IsSl Kd.data W7 (Fresh w2.heap.size W7) A3 m3 c3 db := sd.mono (fun b hb => hb.step hG37.size (hG37.block b hb.2.1 (by have := hb.1; have := hR2.lt; omega))) (fun b hb => hG37.block b hb.2.1 (by have := hb.1; have := hR2.lt; omega))
  have bC := (gW7.block (Nat.lt_of_lt_of_le s5 hG6.size)).trans ((hG6.block _ s5 (by omega)).trans b5)
  have hS5 : w1.heap.size ≤ w5.heap.size := (hG2.trans (hG3.trans (hG4.trans hG5))).size
  have hS6 : w1.heap.size ≤ w6.heap.size := Nat.le_trans hS5 (Nat.le_trans gW5.size hG6.size)
  have sC : IsSl Kd.int W7 (Fresh w1.heap.size W7) (some ⟨w5.heap.size, 0, none⟩) 1 1 [(yn : Int)] := int1 bC ⟨hS5, Nat.lt_of_lt_of_le s5 (Nat.le_trans hG6.size gW7.size), (free_of bC).2⟩
  have sK : IsSl Kd.val W7 (Fresh w1.heap.size W7) (some ⟨w6.heap.size, 0, none⟩) 1 1 [v] := isSl_lit b7 (flat_one ⟨rfl, by unfold maxLen; omega⟩) rfl (by decide) ⟨hS6, s7, (free_of b7).2⟩
  have hS2 : w1.heap.size ≤ w2.heap.size := hG2.size
  have HBC := Lib.hid bC
  have hC7 : w5.heap.size < W7.heap.size := Nat.lt_of_lt_of_le s5 (Nat.le_trans hG6.size gW7.size)
  have FIN : ∀ w', GrowX g W7 w' → ∀ (D : Option Addr) (e2 : Nat) (v' : Val), IsSl Kd.val w' (Fresh w1.heap.size w') D 1 e2 [v'] →
      FindDrawn w (.returned (.tuple #[.slice A2 n2 c2, .slice A3 m3 c3, .int .i64 z, .slice (some ⟨w5.heap.size, 0, none⟩) 1 1, .slice D 1 e2])) w' := fun w' hw' D e2 v' hD =>
    ⟨A2, A3, _, D, n2, c2, m3, c3, 1, e2, s2, db, z, yn, v', rfl, (isl_growX sT hw' hgl).lower hw1, (isl_growX sD hw' (by omega)).lower (by omega), (isl_growX sC hw' hgl).lower hw1, hD.lower hw1, h3, (hG17.trans hw').grow hG1 hg⟩
  have HFIN := Lib.hid FIN
  have HK := Lib.hid sK
  clear FIN sT sC sK b7 b5 bC
  by_cases hz : z = 0
  · subst hz
    by_cases hm0 : 0 < m3
    · have hm0' : (0 : Int) < (m3 : Int) := by omega
      obtain ⟨bD, oD, dd, Ar, Lr, Cr, rfl, hxd, hSD, hbD, cD, sr, _⟩ := data_at sD hm0
      simp only [Nat.add_zero] at cD
      have hdd := hdb dd (List.mem_of_getElem? hxd.out)
      have hLr : Lr ≤ 4 := by rw [← sr.1]; exact hdd.1
      have hneD : bD ≠ g := by have := hSD.1; have := hR2.lt; omega
      clear hxd hSD sD
      by_cases hL : 0 < Lr
      · have hL' : (0 : Int) < (Lr : Int) := by omega
        go_wp2_with fail
        refine (once_any g 4 _ hR7 (by decide) (by decide)).mono ?_
        rintro e w9 ⟨x9, rfl, hG9, hR9⟩
        cases x9 with
        | true =>
          go_wp2
          exact bodyPost_ret (v := .tuple #[.slice A2 n2 c2, .slice (some ⟨bD, oD, none⟩) m3 c3, .int .i64 0, .slice (some ⟨w5.heap.size, 0, none⟩) 1 1, .slice (some ⟨w6.heap.size, 0, none⟩) 1 1]) (by simp [results, Try.results36, go_sem]) rfl (HFIN.out _ (hG9) (some ⟨w6.heap.size, 0, none⟩) 1 v (isl_growX HK.out hG9 hgl))
        | false =>
          have cD9 := (hG9.cell hbD hneD).trans cD
          have hbD9 := Nat.lt_of_lt_of_le hbD hG9.size
          have sr9 := isl_growX sr hG9 (by omega)
          have hl4 : (Lr : Int) ≤ 65536 := by omega
          go_wp2_with fail
          refine wp_region_held_drew (S := (fun w' => GrowX g w9 w' ∧ SameX g w9 w')) (by kernel_rfl) (by exact ((GrowX.refl g w9).drew).both) (fun hHeld => ?_)
          ((refine held_take (i := 0) 52 (v := ?_) rfl rfl (by kernel_rfl) (by kernel_rfl) (by kernel_rfl) (fun _ _ _ h => h) (by kernel_rfl) ?_ (by assumption) ?_; rotate_left 1; (focus (intro w hSw; (try dsimp only at hSw); go_simp; (try with_reducible rfl); done)); all_goals (try simp only [Act.put, List.setIfInBounds_toArray, List.set_cons_zero, List.set_cons_succ])); (refine held_take (i := 1) 53 (v := ?_) rfl rfl (by kernel_rfl) (by kernel_rfl) (by kernel_rfl) (fun _ _ _ h => h) (by kernel_rfl) ?_ (by assumption) ?_; rotate_left 1; (focus (intro w hSw; (try dsimp only at hSw); go_simp; (try with_reducible rfl); done)); all_goals (try simp only [Act.put, List.setIfInBounds_toArray, List.set_cons_zero, List.set_cons_succ])); (refine held_take (i := 2) 54 (v := ?_) rfl rfl (by kernel_rfl) (by kernel_rfl) (by kernel_rfl) (fun _ _ _ h => h) (by kernel_rfl) ?_ (by assumption) ?_; rotate_left 1; (focus (intro w hSw; (try dsimp only at hSw); go_simp; (try with_reducible rfl); done)); all_goals (try simp only [Act.put, List.setIfInBounds_toArray, List.set_cons_zero, List.set_cons_succ])); (refine held_take (i := 3) 55 (v := ?_) rfl rfl (by kernel_rfl) (by kernel_rfl) (by kernel_rfl) (fun _ _ _ h => h) (by kernel_rfl) ?_ (by assumption) ?_; rotate_left 1; (focus (intro w hSw; (try dsimp only at hSw); go_simp; (try with_reducible rfl); done)); all_goals (try simp only [Act.put, List.setIfInBounds_toArray, List.set_cons_zero, List.set_cons_succ])); (refine held_take (i := 4) 56 (v := ?_) rfl rfl (by kernel_rfl) (by kernel_rfl) (by kernel_rfl) (fun _ _ _ h => h) (by kernel_rfl) ?_ (by assumption) ?_; rotate_left 1; (focus (intro w hSw; (try dsimp only at hSw); go_simp; (try with_reducible rfl); done)); all_goals (try simp only [Act.put, List.setIfInBounds_toArray, List.set_cons_zero, List.set_cons_succ])); (refine held_take (i := 5) 57 (v := ?_) rfl rfl (by kernel_rfl) (by kernel_rfl) (by kernel_rfl) (fun _ _ _ h => h) (by kernel_rfl) ?_ (by assumption) ?_; rotate_left 1; (focus (intro w hSw; (try dsimp only at hSw); go_simp; (try with_reducible rfl); done)); all_goals (try simp only [Act.put, List.setIfInBounds_toArray, List.set_cons_zero, List.set_cons_succ])); (refine held_take (i := 6) 58 (v := ?_) rfl rfl (by kernel_rfl) (by kernel_rfl) (by kernel_rfl) (fun _ _ _ h => h) (by kernel_rfl) ?_ (by assumption) ?_; rotate_left 1; (focus (intro w hSw; (try dsimp only at hSw); go_simp; (try with_reducible rfl); done)); all_goals (try simp only [Act.put, List.setIfInBounds_toArray, List.set_cons_zero, List.set_cons_succ])); (refine held_take (i := 7) 59 (v := ?_) rfl rfl (by kernel_rfl) (by kernel_rfl) (by kernel_rfl) (fun _ _ _ h => h) (by kernel_rfl) ?_ (by assumption) ?_; rotate_left 1; (focus (intro w hSw; (try dsimp only at hSw); go_simp; (try with_reducible rfl); done)); all_goals (try simp only [Act.put, List.setIfInBounds_toArray, List.set_cons_zero, List.set_cons_succ])); (refine held_take (i := 8) 60 (v := ?_) rfl rfl (by kernel_rfl) (by kernel_rfl) (by kernel_rfl) (fun _ _ _ h => h) (by kernel_rfl) ?_ (by assumption) ?_; rotate_left 1; (focus (intro w hSw; (try dsimp only at hSw); go_simp; (try with_reducible rfl); done)); all_goals (try simp only [Act.put, List.setIfInBounds_toArray, List.set_cons_zero, List.set_cons_succ])); (refine held_take (i := 9) 61 (v := ?_) rfl rfl (by kernel_rfl) (by kernel_rfl) (by kernel_rfl) (fun _ _ _ h => h) (by kernel_rfl) ?_ (by assumption) ?_; rotate_left 1; (focus (intro w hSw; (try dsimp only at hSw); go_simp; (try with_reducible rfl); done)); all_goals (try simp only [Act.put, List.setIfInBounds_toArray, List.set_cons_zero, List.set_cons_succ])))
          refine wpAnyH_ready (rs := [10, 13]) (by kernel_rfl) (by simp) ?_
          refine AllReadyH.cons rfl (fun K hK => ?_) (AllReadyH.cons rfl (fun K hK => ?_) AllReadyH.nil)
          · go_simp
            refine (below_any g _ _ (hR9.of_grow (Grow.refl _).drew) hl4).mono ?_
            rintro e w10 ⟨i, rfl, hi, hG10, hR10⟩
            have hi' : 0 ≤ i ∧ i < (Lr : Int) := by unfold RdBelow at hi; omega
            clear hi
            obtain ⟨j, rfl⟩ : ∃ j : Nat, i = (j : Int) := ⟨i.toNat, by omega⟩
            obtain ⟨j0, j1⟩ := hi'
            have G910 : GrowX g w9 w10 := ((GrowX.refl g w9).drew).trans hG10
            refine hK.out _ _ (by exact GrowX.both G910) (fun hHeld => ?_)
            clear hK K
            (try refine held_put 62 rfl ?_)
            (try simp only [Act.put, List.setIfInBounds_toArray, List.set_cons_zero, List.set_cons_succ])
            obtain ⟨bR, oR, r, Av, Lv, Cv, rfl, hxr, hSR, hbR, cR0, cR1, sv, _⟩ := row_at sr9 (i := j) (by omega)
            have hrv := hdd.2 r (List.mem_of_getElem? hxr.out)
            have hLv : 2 ≤ Lv := by rw [← sv.1]; exact hrv
            have hneR : bR ≠ g := by have := hSR.1; omega
            clear hxr hSR
            ((refine held_take (i := 11) 63 (v := ?_) rfl rfl (by kernel_rfl) (by kernel_rfl) (by kernel_rfl) (fun _ _ _ h => h) (by kernel_rfl) ?_ (by assumption) ?_; rotate_left 1; (focus (intro w hSw; (try dsimp only at hSw); go_simp; (try with_reducible rfl); done)); all_goals (try simp only [Act.put, List.setIfInBounds_toArray, List.set_cons_zero, List.set_cons_succ])); (refine held_take (i := 12) 64 (v := ?_) rfl rfl (by kernel_rfl) (by kernel_rfl) (by kernel_rfl) (fun _ _ _ h => h) (by kernel_rfl) ?_ (by assumption) ?_; rotate_left 1; (focus (intro w hSw; (try dsimp only at hSw); go_simp; (try with_reducible rfl); done)); all_goals (try simp only [Act.put, List.setIfInBounds_toArray, List.set_cons_zero, List.set_cons_succ])))
            refine wpAnyH_ready (rs := [13]) (by kernel_rfl) (by simp) ?_
            refine AllReadyH.cons rfl (fun K hK => ?_) AllReadyH.nil
            go_simp
            refine hK.out _ _ (by exact GrowX.both (G910.alloc _)) (fun hHeld => ?_)
            clear hK K
            (try refine held_put 13 rfl ?_)
            (try simp only [Act.put, List.setIfInBounds_toArray, List.set_cons_zero, List.set_cons_succ])
            refine wpAnyH_ready (rs := [14]) (by kernel_rfl) (by simp) ?_
            refine AllReadyH.cons rfl (fun K hK => ?_) AllReadyH.nil
            go_simp
            refine hK.out _ _ (by exact GrowX.both (G910.alloc _)) (fun hHeld => ?_)
            clear hK K hHeld
            (try simp only [Act.put, List.setIfInBounds_toArray, List.set_cons_zero, List.set_cons_succ])
            refine wpAnyH_done (by kernel_rfl) ?_ _
            generalize hV : World.alloc w10 _ = V
            obtain ⟨gV, sV, bV⟩ := boxedB hV
            clear hV
            have GV' : GrowX g w9 V := G910.trans (GrowX.of gV)
            have GV7 : GrowX g W7 V := hG9.trans GV'
            have q1 := (free_of bV).1 1
            simp only [List.getElem?_toArray, List.getElem?_cons_succ, List.getElem?_cons_zero] at q1
            clear bV
            obtain ⟨vv, hvv⟩ : ∃ vv, r.vals[yn]? = some vv := ⟨_, List.getElem?_eq_getElem (by rw [sv.1]; omega)⟩
            have svV := isl_growX sv GV' (by omega)
            obtain ⟨bV, oV, v2, rfl, hx2, hSV, hbV, hzV, u0, u1, u2⟩ := val_at svV (i := yn) (by omega)
            obtain rfl : v2 = vv := Option.some.inj (hx2.out.symm.trans hvv)
            have cY : V.cell? ⟨w5.heap.size, 0, none⟩ = some (.int .i64 yn) := by rw [(free_of ((GV7.block _ hC7 (by omega)).trans HBC.out)).1]; rfl
            have sY := Nat.lt_of_lt_of_le hC7 GV7.size
            have y0 : (0 : Int) ≤ (yn : Int) := Int.natCast_nonneg yn
            have y1 : (yn : Int) < (Lv : Int) := by omega
            clear hx2 hvv hSV
            go_wp2_with fail
            refine wp_region_held_drew (S := (fun w' => Grow V w' ∧ Same V w')) (by kernel_rfl) (by exact Grow.both (by repeat (with_reducible first | exact Grow.refl _ | assumption | refine Grow.drew ?_ | refine Grow.alloc ?_ _ | refine Grow.set ?_ (by first | exact Nat.le_refl _ | (simp; done) | (simp; omega) | omega) _ | exact And.left (by assumption) | refine Grow.trans ?_ (by assumption)))) (fun hHeld => ?_)
            ((refine held_take (i := 0) 65 (v := ?_) rfl rfl (by kernel_rfl) (by kernel_rfl) (by kernel_rfl) (fun _ _ _ h => h) (by kernel_rfl) ?_ (by assumption) ?_; rotate_left 1; (focus (intro w hSw; (try dsimp only at hSw); go_simp; (try with_reducible rfl); done)); all_goals (try simp only [Act.put, List.setIfInBounds_toArray, List.set_cons_zero, List.set_cons_succ])); (refine held_take (i := 1) 66 (v := ?_) rfl rfl (by kernel_rfl) (by kernel_rfl) (by kernel_rfl) (fun _ _ _ h => h) (by kernel_rfl) ?_ (by assumption) ?_; rotate_left 1; (focus (intro w hSw; (try dsimp only at hSw); go_simp; (try with_reducible rfl); done)); all_goals (try simp only [Act.put, List.setIfInBounds_toArray, List.set_cons_zero, List.set_cons_succ])); (refine held_take (i := 2) 67 (v := ?_) rfl rfl (by kernel_rfl) (by kernel_rfl) (by kernel_rfl) (fun _ _ _ h => h) (by kernel_rfl) ?_ (by assumption) ?_; rotate_left 1; (focus (intro w hSw; (try dsimp only at hSw); go_simp; (try with_reducible rfl); done)); all_goals (try simp only [Act.put, List.setIfInBounds_toArray, List.set_cons_zero, List.set_cons_succ])); (refine held_take (i := 3) 68 (v := ?_) rfl rfl (by kernel_rfl) (by kernel_rfl) (by kernel_rfl) (fun _ _ _ h => h) (by kernel_rfl) ?_ (by assumption) ?_; rotate_left 1; (focus (intro w hSw; (try dsimp only at hSw); go_simp; (try with_reducible rfl); done)); all_goals (try simp only [Act.put, List.setIfInBounds_toArray, List.set_cons_zero, List.set_cons_succ])); (refine held_take (i := 4) 69 (v := ?_) rfl rfl (by kernel_rfl) (by kernel_rfl) (by kernel_rfl) (fun _ _ _ h => h) (by kernel_rfl) ?_ (by assumption) ?_; rotate_left 1; (focus (intro w hSw; (try dsimp only at hSw); go_simp; (try with_reducible rfl); done)); all_goals (try simp only [Act.put, List.setIfInBounds_toArray, List.set_cons_zero, List.set_cons_succ])); (refine held_take (i := 5) 70 (v := ?_) rfl rfl (by kernel_rfl) (by kernel_rfl) (by kernel_rfl) (fun _ _ _ h => h) (by kernel_rfl) ?_ (by assumption) ?_; rotate_left 1; (focus (intro w hSw; (try dsimp only at hSw); go_simp; (try with_reducible rfl); done)); all_goals (try simp only [Act.put, List.setIfInBounds_toArray, List.set_cons_zero, List.set_cons_succ])); (refine held_take (i := 6) 71 (v := ?_) rfl rfl (by kernel_rfl) (by kernel_rfl) (by kernel_rfl) (fun _ _ _ h => h) (by kernel_rfl) ?_ (by assumption) ?_; rotate_left 1; (focus (intro w hSw; (try dsimp only at hSw); go_simp; (try with_reducible rfl); done)); all_goals (try simp only [Act.put, List.setIfInBounds_toArray, List.set_cons_zero, List.set_cons_succ])))
            refine wpAnyH_ready (rs := [7]) (by kernel_rfl) (by simp) ?_
            refine AllReadyH.cons rfl (fun K hK => ?_) AllReadyH.nil
            go_simp
            refine hK.out _ _ (by exact Grow.both ((Grow.refl V).drew.alloc _)) (fun hHeld => ?_)
            clear hK K
            (try refine held_put 72 rfl ?_)
            (try simp only [Act.put, List.setIfInBounds_toArray, List.set_cons_zero, List.set_cons_succ])
            ((refine held_take (i := 8) 12 (v := ?_) rfl rfl (by kernel_rfl) (by kernel_rfl) (by kernel_rfl) (fun _ _ _ h => h) (by kernel_rfl) ?_ (by assumption) ?_; rotate_left 1; (focus (intro w hSw; (try dsimp only at hSw); go_simp; (try with_reducible rfl); done)); all_goals (try simp only [Act.put, List.setIfInBounds_toArray, List.set_cons_zero, List.set_cons_succ])))
            refine wpAnyH_done (by kernel_rfl) ?_ _
            have gU := ((Grow.refl V).drew).alloc (.cells #[.int .i64 v2.kind, .int .i64 v2.n, .string v2.s] 45)
            have GU : GrowX g W7 (V.drew.alloc (.cells #[.int .i64 v2.kind, .int .i64 v2.n, .string v2.s] 45)) := GV7.trans (GrowX.of gU)
            have KU : IsSl Kd.val (V.drew.alloc (.cells #[.int .i64 v2.kind, .int .i64 v2.n, .string v2.s] 45)) (Fresh w1.heap.size (V.drew.alloc (.cells #[.int .i64 v2.kind, .int .i64 v2.n, .string v2.s] 45))) (some ⟨V.heap.size, 0, none⟩) 1 1 [v2] :=
              isSl_lit (new_block V.drew _) (flat_one ⟨rfl, hzV⟩) rfl (by decide) ⟨Nat.le_trans hS6 (Nat.le_trans gW7.size GV7.size), by simp, (free_of (new_block V.drew _)).2⟩
            go_wp2
            exact bodyPost_ret (v := .tuple #[.slice A2 n2 c2, .slice (some ⟨bD, oD, none⟩) m3 c3, .int .i64 0, .slice (some ⟨w5.heap.size, 0, none⟩) 1 1, .slice (some ⟨V.heap.size, 0, none⟩) 1 1]) (by simp [results, Try.results36, go_sem]) rfl (HFIN.out _ GU (some ⟨V.heap.size, 0, none⟩) 1 v2 KU)
          · go_simp
            refine hK.out _ _ (by exact GrowX.both (((GrowX.refl g w9).drew).alloc _)) (fun hHeld => ?_)
            clear hK K
            (try refine held_put 13 rfl ?_)
            (try simp only [Act.put, List.setIfInBounds_toArray, List.set_cons_zero, List.set_cons_succ])
            generalize hA : World.alloc w9 _ = Wa at hHeld ⊢
            obtain ⟨gA, sA, bA⟩ := boxedB hA
            clear hA
            have gA9 : Grow w9 Wa.drew := gA.drew
            refine wpAnyH_ready (rs := [10]) (by kernel_rfl) (by simp) ?_
            refine AllReadyH.cons rfl (fun K hK => ?_) AllReadyH.nil
            go_simp
            refine (below_any g _ _ (hR9.of_grow gA9) hl4).mono ?_
            rintro e w10 ⟨i, rfl, hi, hG10, hR10⟩
            have hi' : 0 ≤ i ∧ i < (Lr : Int) := by unfold RdBelow at hi; omega
            clear hi
            obtain ⟨j, rfl⟩ : ∃ j : Nat, i = (j : Int) := ⟨i.toNat, by omega⟩
            obtain ⟨j0, j1⟩ := hi'
            have G910 : GrowX g w9 w10 := (GrowX.of gA9).trans hG10
            refine hK.out _ _ (by exact GrowX.both G910) (fun hHeld => ?_)
            clear hK K
            (try refine held_put 62 rfl ?_)
            (try simp only [Act.put, List.setIfInBounds_toArray, List.set_cons_zero, List.set_cons_succ])
            obtain ⟨bR, oR, r, Av, Lv, Cv, rfl, hxr, hSR, hbR, cR0, cR1, sv, _⟩ := row_at sr9 (i := j) (by omega)
            have hrv := hdd.2 r (List.mem_of_getElem? hxr.out)
            have hLv : 2 ≤ Lv := by rw [← sv.1]; exact hrv
            have hneR : bR ≠ g := by have := hSR.1; omega
            clear hxr hSR
            ((refine held_take (i := 11) 63 (v := ?_) rfl rfl (by kernel_rfl) (by kernel_rfl) (by kernel_rfl) (fun _ _ _ h => h) (by kernel_rfl) ?_ (by assumption) ?_; rotate_left 1; (focus (intro w hSw; (try dsimp only at hSw); go_simp; (try with_reducible rfl); done)); all_goals (try simp only [Act.put, List.setIfInBounds_toArray, List.set_cons_zero, List.set_cons_succ])); (refine held_take (i := 12) 64 (v := ?_) rfl rfl (by kernel_rfl) (by kernel_rfl) (by kernel_rfl) (fun _ _ _ h => h) (by kernel_rfl) ?_ (by assumption) ?_; rotate_left 1; (focus (intro w hSw; (try dsimp only at hSw); go_simp; (try with_reducible rfl); done)); all_goals (try simp only [Act.put, List.setIfInBounds_toArray, List.set_cons_zero, List.set_cons_succ])))
            have P10 := (hG10.block _ sA (by show w9.heap.size ≠ g; have := hR9.lt; omega)).trans bA
            have P10s : w9.heap.size < w10.heap.size := Nat.lt_of_lt_of_le sA hG10.size
            obtain ⟨z10, f10⟩ := free_of P10
            have z100 := z10 0
            have z101 := z10 1
            simp only [List.getElem?_toArray, List.getElem?_cons_succ, List.getElem?_cons_zero] at z100 z101
            refine wpAnyH_ready (rs := [14]) (by kernel_rfl) (by simp) ?_
            refine AllReadyH.cons rfl (fun K hK => ?_) AllReadyH.nil
            go_simp
            have GS : GrowX g w9 ((w10.setCell ⟨w9.heap.size, 0, none⟩ (.int .i64 r.id)).setCell ⟨w9.heap.size, 1, none⟩ (.slice Av Lv Cv)) := (G910.put (Nat.le_refl _) _).put (Nat.le_refl _) _
            refine hK.out _ _ (by exact GrowX.both GS) (fun hHeld => ?_)
            clear hK K hHeld
            (try simp only [Act.put, List.setIfInBounds_toArray, List.set_cons_zero, List.set_cons_succ])
            refine wpAnyH_done (by kernel_rfl) ?_ _
            have bV : ((w10.setCell ⟨w9.heap.size, 0, none⟩ (.int .i64 r.id)).setCell ⟨w9.heap.size, 1, none⟩ (.slice Av Lv Cv)).heap[w9.heap.size]? = some (.cells #[.int .i64 r.id, .slice Av Lv Cv] 80 (0, 0)) := setL_own P10 0 [.int .i64 r.id, .slice Av Lv Cv]
            have sV : w9.heap.size < ((w10.setCell ⟨w9.heap.size, 0, none⟩ (.int .i64 r.id)).setCell ⟨w9.heap.size, 1, none⟩ (.slice Av Lv Cv)).heap.size := by simp [World.setCell]; exact P10s
            generalize hV : World.setCell (World.setCell w10 _ _) _ _ = V at GS bV sV ⊢
            clear hV
            have GV' : GrowX g w9 V := GS
            have GV7 : GrowX g W7 V := hG9.trans GV'
            have q1 := (free_of bV).1 1
            simp only [List.getElem?_toArray, List.getElem?_cons_succ, List.getElem?_cons_zero] at q1
            clear bV
            obtain ⟨vv, hvv⟩ : ∃ vv, r.vals[yn]? = some vv := ⟨_, List.getElem?_eq_getElem (by rw [sv.1]; omega)⟩
            have svV := isl_growX sv GV' (by omega)
            obtain ⟨bV, oV, v2, rfl, hx2, hSV, hbV, hzV, u0, u1, u2⟩ := val_at svV (i := yn) (by omega)
            obtain rfl : v2 = vv := Option.some.inj (hx2.out.symm.trans hvv)
            have cY : V.cell? ⟨w5.heap.size, 0, none⟩ = some (.int .i64 yn) := by rw [(free_of ((GV7.block _ hC7 (by omega)).trans HBC.out)).1]; rfl
            have sY := Nat.lt_of_lt_of_le hC7 GV7.size
            have y0 : (0 : Int) ≤ (yn : Int) := Int.natCast_nonneg yn
            have y1 : (yn : Int) < (Lv : Int) := by omega
            clear hx2 hvv hSV
            go_wp2_with fail
            refine wp_region_held_drew (S := (fun w' => Grow V w' ∧ Same V w')) (by kernel_rfl) (by exact Grow.both (by repeat (with_reducible first | exact Grow.refl _ | assumption | refine Grow.drew ?_ | refine Grow.alloc ?_ _ | refine Grow.set ?_ (by first | exact Nat.le_refl _ | (simp; done) | (simp; omega) | omega) _ | exact And.left (by assumption) | refine Grow.trans ?_ (by assumption)))) (fun hHeld => ?_)
            ((refine held_take (i := 0) 65 (v := ?_) rfl rfl (by kernel_rfl) (by kernel_rfl) (by kernel_rfl) (fun _ _ _ h => h) (by kernel_rfl) ?_ (by assumption) ?_; rotate_left 1; (focus (intro w hSw; (try dsimp only at hSw); go_simp; (try with_reducible rfl); done)); all_goals (try simp only [Act.put, List.setIfInBounds_toArray, List.set_cons_zero, List.set_cons_succ])); (refine held_take (i := 1) 66 (v := ?_) rfl rfl (by kernel_rfl) (by kernel_rfl) (by kernel_rfl) (fun _ _ _ h => h) (by kernel_rfl) ?_ (by assumption) ?_; rotate_left 1; (focus (intro w hSw; (try dsimp only at hSw); go_simp; (try with_reducible rfl); done)); all_goals (try simp only [Act.put, List.setIfInBounds_toArray, List.set_cons_zero, List.set_cons_succ])); (refine held_take (i := 2) 67 (v := ?_) rfl rfl (by kernel_rfl) (by kernel_rfl) (by kernel_rfl) (fun _ _ _ h => h) (by kernel_rfl) ?_ (by assumption) ?_; rotate_left 1; (focus (intro w hSw; (try dsimp only at hSw); go_simp; (try with_reducible rfl); done)); all_goals (try simp only [Act.put, List.setIfInBounds_toArray, List.set_cons_zero, List.set_cons_succ])); (refine held_take (i := 3) 68 (v := ?_) rfl rfl (by kernel_rfl) (by kernel_rfl) (by kernel_rfl) (fun _ _ _ h => h) (by kernel_rfl) ?_ (by assumption) ?_; rotate_left 1; (focus (intro w hSw; (try dsimp only at hSw); go_simp; (try with_reducible rfl); done)); all_goals (try simp only [Act.put, List.setIfInBounds_toArray, List.set_cons_zero, List.set_cons_succ])); (refine held_take (i := 4) 69 (v := ?_) rfl rfl (by kernel_rfl) (by kernel_rfl) (by kernel_rfl) (fun _ _ _ h => h) (by kernel_rfl) ?_ (by assumption) ?_; rotate_left 1; (focus (intro w hSw; (try dsimp only at hSw); go_simp; (try with_reducible rfl); done)); all_goals (try simp only [Act.put, List.setIfInBounds_toArray, List.set_cons_zero, List.set_cons_succ])); (refine held_take (i := 5) 70 (v := ?_) rfl rfl (by kernel_rfl) (by kernel_rfl) (by kernel_rfl) (fun _ _ _ h => h) (by kernel_rfl) ?_ (by assumption) ?_; rotate_left 1; (focus (intro w hSw; (try dsimp only at hSw); go_simp; (try with_reducible rfl); done)); all_goals (try simp only [Act.put, List.setIfInBounds_toArray, List.set_cons_zero, List.set_cons_succ])); (refine held_take (i := 6) 71 (v := ?_) rfl rfl (by kernel_rfl) (by kernel_rfl) (by kernel_rfl) (fun _ _ _ h => h) (by kernel_rfl) ?_ (by assumption) ?_; rotate_left 1; (focus (intro w hSw; (try dsimp only at hSw); go_simp; (try with_reducible rfl); done)); all_goals (try simp only [Act.put, List.setIfInBounds_toArray, List.set_cons_zero, List.set_cons_succ])))
            refine wpAnyH_ready (rs := [7]) (by kernel_rfl) (by simp) ?_
            refine AllReadyH.cons rfl (fun K hK => ?_) AllReadyH.nil
            go_simp
            refine hK.out _ _ (by exact Grow.both ((Grow.refl V).drew.alloc _)) (fun hHeld => ?_)
            clear hK K
            (try refine held_put 72 rfl ?_)
            (try simp only [Act.put, List.setIfInBounds_toArray, List.set_cons_zero, List.set_cons_succ])
            ((refine held_take (i := 8) 12 (v := ?_) rfl rfl (by kernel_rfl) (by kernel_rfl) (by kernel_rfl) (fun _ _ _ h => h) (by kernel_rfl) ?_ (by assumption) ?_; rotate_left 1; (focus (intro w hSw; (try dsimp only at hSw); go_simp; (try with_reducible rfl); done)); all_goals (try simp only [Act.put, List.setIfInBounds_toArray, List.set_cons_zero, List.set_cons_succ])))
            refine wpAnyH_done (by kernel_rfl) ?_ _
            have gU := ((Grow.refl V).drew).alloc (.cells #[.int .i64 v2.kind, .int .i64 v2.n, .string v2.s] 45)
            have GU : GrowX g W7 (V.drew.alloc (.cells #[.int .i64 v2.kind, .int .i64 v2.n, .string v2.s] 45)) := GV7.trans (GrowX.of gU)
            have KU : IsSl Kd.val (V.drew.alloc (.cells #[.int .i64 v2.kind, .int .i64 v2.n, .string v2.s] 45)) (Fresh w1.heap.size (V.drew.alloc (.cells #[.int .i64 v2.kind, .int .i64 v2.n, .string v2.s] 45))) (some ⟨V.heap.size, 0, none⟩) 1 1 [v2] :=
              isSl_lit (new_block V.drew _) (flat_one ⟨rfl, hzV⟩) rfl (by decide) ⟨Nat.le_trans hS6 (Nat.le_trans gW7.size GV7.size), by simp, (free_of (new_block V.drew _)).2⟩
            go_wp2
            exact bodyPost_ret (v := .tuple #[.slice A2 n2 c2, .slice (some ⟨bD, oD, none⟩) m3 c3, .int .i64 0, .slice (some ⟨w5.heap.size, 0, none⟩) 1 1, .slice (some ⟨V.heap.size, 0, none⟩) 1 1]) (by simp [results, Try.results36, go_sem]) rfl (HFIN.out _ GU (some ⟨V.heap.size, 0, none⟩) 1 v2 KU)
      · have hL' : ¬ ((0 : Int) < (Lr : Int)) := by omega
        go_wp2
        exact bodyPost_ret (v := .tuple #[.slice A2 n2 c2, .slice (some ⟨bD, oD, none⟩) m3 c3, .int .i64 0, .slice (some ⟨w5.heap.size, 0, none⟩) 1 1, .slice (some ⟨w6.heap.size, 0, none⟩) 1 1]) (by simp [results, Try.results36, go_sem]) rfl (HFIN.out _ (GrowX.refl g _) (some ⟨w6.heap.size, 0, none⟩) 1 v (HK.out))
    · have hm0' : ¬ ((0 : Int) < (m3 : Int)) := by omega
      go_wp2
      exact bodyPost_ret (v := .tuple #[.slice A2 n2 c2, .slice A3 m3 c3, .int .i64 0, .slice (some ⟨w5.heap.size, 0, none⟩) 1 1, .slice (some ⟨w6.heap.size, 0, none⟩) 1 1]) (by simp [results, Try.results36, go_sem]) rfl (HFIN.out _ (GrowX.refl g _) (some ⟨w6.heap.size, 0, none⟩) 1 v (HK.out))
  · have hzb : (z == 0) = false := by simpa using hz
    go_wp2
    exact bodyPost_ret (v := .tuple #[.slice A2 n2 c2, .slice A3 m3 c3, .int .i64 z, .slice (some ⟨w5.heap.size, 0, none⟩) 1 1, .slice (some ⟨w6.heap.size, 0, none⟩) 1 1]) (by simp [results, Try.results36, go_sem]) rfl (HFIN.out _ (GrowX.refl g _) (some ⟨w6.heap.size, 0, none⟩) 1 v (HK.out))
end Go.Proofs.Ytjeilgogjoidjaa
