import Derived.Test.YtjeilgogjoidjaaDrawH
/-! What is drawn for ColAt. -/
namespace Go.Proofs.Ytjeilgogjoidjaa
open Go.RowKit
set_option linter.unusedVariables false
set_option linter.unusedSimpArgs false
/-- A table and a name are handed back. -/
def TabName (w : World) (e : Ending) (w' : World) : Prop := ∃ (cs : List Value) (t : Table) (nm : ByteArray), e = .returned (.tuple #[.agg cs.toArray, .string nm]) ∧ Kd.table.rd w' (Fresh w.heap.size w') cs t ∧ nm.size ≤ maxLen ∧ Grow w w'
/-- What holds of a world beside the region: the first table's block is as it was, the result's box holds these. -/
structure ColW (g P z : Nat) (w w2 : World) (a b c d e f : Value) (V : World) : Prop where
  gx : GrowX g w V
  sz : w2.heap.size ≤ V.heap.size
  old : ∀ q, w.heap.size < q → q < w2.heap.size → q ≠ g → V.heap[q]? = w2.heap[q]?
  box : V.heap[z]? = some (.cells #[a, b, c, d, e, f] 34 (0, 0))
theorem ColW.grow {g P z : Nat} {w w2 V V' : World} {a b c d e f : Value} (h : ColW g P z w w2 a b c d e f V) (hz : z < w2.heap.size) (hg : Grow V V') : ColW g P z w w2 a b c d e f V' :=
  ⟨h.gx.trans (GrowX.of hg), Nat.le_trans h.sz hg.size, fun q h1 h2 h3 => (hg.block (Nat.lt_of_lt_of_le h2 h.sz)).trans (h.old q h1 h2 h3), (hg.block (Nat.lt_of_lt_of_le hz h.sz)).trans h.box⟩
theorem ColW.growX {g P z : Nat} {w w2 V V' : World} {a b c d e f : Value} (h : ColW g P z w w2 a b c d e f V) (hz : z < w2.heap.size) (hzg : z ≠ g) (hg : GrowX g V V') : ColW g P z w w2 a b c d e f V' :=
  ⟨h.gx.trans hg, Nat.le_trans h.sz hg.size, fun q h1 h2 h3 => (hg.block q (Nat.lt_of_lt_of_le h2 h.sz) h3).trans (h.old q h1 h2 h3), (hg.block z (Nat.lt_of_lt_of_le hz h.sz) hzg).trans h.box⟩
theorem ColW.put {g P z : Nat} {w w2 V X : World} {a b c d e f a' b' c' d' e' f' : Value} (h : ColW g P z w w2 a b c d e f V) (hz : z = w.heap.size)
    (hX : (((((V.setCell ⟨z, 0, none⟩ a').setCell ⟨z, 1, none⟩ b').setCell ⟨z, 2, none⟩ c').setCell ⟨z, 3, none⟩ d').setCell ⟨z, 4, none⟩ e').setCell ⟨z, 5, none⟩ f' = X) : ColW g P z w w2 a' b' c' d' e' f' X := by
  subst hX
  have hB : w.heap.size ≤ z := Nat.le_of_eq hz.symm
  refine ⟨(((((h.gx.put hB _).put hB _).put hB _).put hB _).put hB _).put hB _, ?_, fun q h1 h2 h3 => ?_, setL_own h.box 0 [a', b', c', d', e', f']⟩
  · exact Nat.le_trans h.sz (Nat.le_of_eq (setL_size V z 0 [a', b', c', d', e', f']).symm)
  · exact (setL_other V z (show q ≠ z by omega) 0 [a', b', c', d', e', f']).trans (h.old q h1 h2 h3)
theorem ColW.s {g P z : Nat} {w w2 V : World} {a b c d e f : Value} (h : ColW g P z w w2 a b c d e f V) (hP : w.heap.size < P ∧ P < w2.heap.size ∧ P ≠ g) : GrowX g w V ∧ ∀ o, V.cell? ⟨P, o, none⟩ = w2.cell? ⟨P, o, none⟩ :=
  ⟨h.gx, fun o => World.cell?_of_block (h.old P hP.1 hP.2.1 hP.2.2)⟩
set_option maxRecDepth 20000 in
set_option maxHeartbeats 16000000 in
theorem drawColAt_any {A : Option Addr} {len cap : Nat} {xs : List Int} (w : World) (h : IsSl Kd.byte w (· < w.heap.size) A len cap xs) :
    Calls Try.prog 10 #[.slice A len cap] w (TabName w) := by
  go_enter Try.func10, Try.ntmps10
  go_wp2_with fail
  generalize hW : World.alloc w _ = W0
  obtain ⟨g0, s0, b0⟩ := boxedB hW
  clear hW
  refine (l1Open_any W0 (h.grow g0)).mono ?_
  rintro e w1 ⟨g, rfl, hg, hG1, hR1⟩
  have hgl := hR1.lt
  have hg0 : g ≠ w.heap.size := by omega
  have hw1 : w.heap.size ≤ w1.heap.size := Nat.le_trans g0.size hG1.size
  go_wp2_with fail
  refine (schema_any g _ hR1).mono ?_
  rintro e w2 ⟨A2, n2, c2, s2, rfl, own2, h1, h3, hb, hG2, hR2⟩
  obtain ⟨P, rfl⟩ := own2.there (by omega)
  obtain ⟨t0, ts, rfl⟩ : ∃ t0 ts, s2 = t0 :: ts := by
    have hlen := own2.len
    cases s2 with
    | nil => simp at hlen; omega
    | cons a l => exact ⟨a, l, rfl⟩
  obtain ⟨A0, A1, A2, A3, A4, l0, k0, l1, k1, l2, k2, l3, k3, l4, k4, hrd, hBP, hPs, fP, d0, d1, d2, d3, d4, d5⟩ := tab_box own2
  have HRD := Lib.hid hrd
  have hn2 : 0 < n2 := by omega
  have z2 : w.heap.size < w2.heap.size := Nat.lt_of_lt_of_le s0 (Nat.le_trans hG1.size hG2.size)
  have hP3 : w.heap.size < P ∧ P < w2.heap.size ∧ P ≠ g := ⟨by have := Nat.lt_of_lt_of_le s0 hG1.size; omega, hPs, by omega⟩
  have hPg : P ≠ g := hP3.2.2
  have GW2 : GrowX g w w2 := (GrowX.of g0).trans ((GrowX.of hG1).trans hG2)
  have C2 : ColW g P w.heap.size w w2 (.string ⟨#[]⟩) (.slice none 0 0) (.slice none 0 0) (.slice none 0 0) (.slice none 0 0) (.slice none 0 0) w2 :=
    ⟨GW2, Nat.le_refl _, fun _ _ _ _ => rfl, (hG2.block _ (Nat.lt_of_lt_of_le s0 hG1.size) hg0.symm).trans ((hG1.block s0).trans b0)⟩
  have HC2 := Lib.hid C2
  have hwg : w.heap.size ≤ g := by have := hg; omega
  have FIN : ∀ V, ColW g P w.heap.size w w2 (.string t0.name) (.slice A0 l0 k0) (.slice A1 l1 k1) (.slice A2 l2 k2) (.slice A3 l3 k3) (.slice A4 l4 k4) V → ∀ nm : ByteArray, nm.size ≤ maxLen →
      TabName w (.returned (.tuple #[.agg #[.string t0.name, .slice A0 l0 k0, .slice A1 l1 k1, .slice A2 l2 k2, .slice A3 l3 k3, .slice A4 l4 k4], .string nm])) V := fun V hV nm hn =>
    ⟨[.string t0.name, .slice A0 l0 k0, .slice A1 l1 k1, .slice A2 l2 k2, .slice A3 l3 k3, .slice A4 l4 k4], t0, nm, rfl, Kd.table.mono HRD.out (fun b hb => (hb.1.step hV.sz (hV.old b (by have := hb.1.1; have := Nat.lt_of_lt_of_le s0 hG1.size; omega) hb.1.2.1 (by have := hb.1.1; omega))).low hw1) (fun b hb => hV.old b (by have := hb.1.1; have := Nat.lt_of_lt_of_le s0 hG1.size; omega) hb.1.2.1 (by have := hb.1.1; omega)), hn, hV.gx.grow (Grow.refl w) hwg⟩
  have HFIN := Lib.hid FIN
  have HZ := Lib.hid z2
  clear FIN own2 hrd b0 C2 hBP
  go_wp2_with fail
  refine wp_region_held_drew (S := (fun w' => GrowX g w w' ∧ ∀ o, w'.cell? ⟨P, o, none⟩ = w2.cell? ⟨P, o, none⟩)) (by kernel_rfl) (by exact (HC2.out.grow HZ.out (Grow.refl _).drew).s hP3) (fun hHeld => ?_)
  ((refine held_take (i := 0) 10 (v := ?_) rfl rfl (by kernel_rfl) (by kernel_rfl) (by kernel_rfl) (fun _ _ _ h => h) (by kernel_rfl) ?_ (by assumption) ?_; rotate_left 1; (focus (intro w hSw; (try dsimp only at hSw); go_simp; (try with_reducible rfl); done)); all_goals (try simp only [Act.put, List.setIfInBounds_toArray, List.set_cons_zero, List.set_cons_succ])); (refine held_take (i := 1) 11 (v := ?_) rfl rfl (by kernel_rfl) (by kernel_rfl) (by kernel_rfl) (fun _ _ _ h => h) (by kernel_rfl) ?_ (by assumption) ?_; rotate_left 1; (focus (intro w hSw; (try dsimp only at hSw); go_simp; (try with_reducible rfl); done)); all_goals (try simp only [Act.put, List.setIfInBounds_toArray, List.set_cons_zero, List.set_cons_succ])); (refine held_take (i := 2) 12 (v := ?_) rfl rfl (by kernel_rfl) (by kernel_rfl) (by kernel_rfl) (fun _ _ _ h => h) (by kernel_rfl) ?_ (by assumption) ?_; rotate_left 1; (focus (intro w hSw; (try dsimp only at hSw); go_simp; (try with_reducible rfl); done)); all_goals (try simp only [Act.put, List.setIfInBounds_toArray, List.set_cons_zero, List.set_cons_succ])); (refine held_take (i := 4) 14 (v := ?_) rfl rfl (by kernel_rfl) (by kernel_rfl) (by kernel_rfl) (fun _ _ _ h => h) (by kernel_rfl) ?_ (by assumption) ?_; rotate_left 1; (focus (intro w hSw; (try dsimp only at hSw); go_simp; (try with_reducible rfl); done)); all_goals (try simp only [Act.put, List.setIfInBounds_toArray, List.set_cons_zero, List.set_cons_succ])))
  clear d0 d1 d2 d3 d4 d5
  refine wpAnyH_ready (rs := [3, 5]) (by kernel_rfl) (by simp) ?_
  refine AllReadyH.cons rfl (fun K hK => ?_) (AllReadyH.cons rfl (fun K hK => ?_) (AllReadyH.nil))
  · go_simp
    obtain ⟨V1, hV1⟩ : ∃ V, w2.alloc (.cells #[.string ⟨#[107]⟩, .string ⟨#[116]⟩, .string ⟨#[110]⟩, .string ⟨#[120]⟩] 9) = V := ⟨_, rfl⟩
    have gV1 : Grow w2 V1 := by rw [← hV1]; exact (Grow.refl _).alloc _
    have bV1 := Lib.hid (show V1.heap[w2.heap.size]? = some (.cells #[.string ⟨#[107]⟩, .string ⟨#[116]⟩, .string ⟨#[110]⟩, .string ⟨#[120]⟩] 9 (0, 0)) by rw [← hV1]; exact new_block _ _)
    have sV1 : w2.heap.size < V1.heap.size := by rw [← hV1]; simp
    have C1 := Lib.hid (HC2.out.grow HZ.out gV1)
    have nV1 : w2.heap.size ≠ g ∧ w2.heap.size ≤ w2.heap.size := by have := hR2.lt; have := HC2.out.sz; omega
    refine hK.out _ _ (by exact (HC2.out.grow HZ.out ((Grow.refl _).drew.alloc _)).s hP3) (fun hHeld => ?_)
    clear hK K
    (try refine held_put 13 rfl ?_)
    (try simp only [Act.put, List.setIfInBounds_toArray, List.set_cons_zero, List.set_cons_succ])
    rw [hV1] at hHeld ⊢
    have R1 := hR2.of_grow gV1
    refine wpAnyH_ready (rs := [5]) (by kernel_rfl) (by simp) ?_
    refine AllReadyH.cons rfl (fun K hK => ?_) (AllReadyH.nil)
    · go_simp
      refine (below_any g _ _ (R1.of_grow (Grow.refl _).drew) (by decide)).mono ?_
      rintro e V2 ⟨y, rfl, hy, hG, hR⟩
      obtain ⟨yn, rfl, y1, y0⟩ := below_nat hy (by decide)
      have GG : GrowX g V1 V2 := ((GrowX.refl g V1).drew).trans hG
      have C2 := Lib.hid (C1.out.growX HZ.out hg0.symm GG)
      refine hK.out _ _ (by exact C2.out.s hP3) (fun hHeld => ?_)
      clear hK K hy
      (try refine held_put 15 rfl ?_)
      (try simp only [Act.put, List.setIfInBounds_toArray, List.set_cons_zero, List.set_cons_succ])
      obtain ⟨nm, hq, hnm⟩ := strs4 ⟨#[107]⟩ ⟨#[116]⟩ ⟨#[110]⟩ ⟨#[120]⟩ (by decide) (y := yn) (by omega)
      replace hq := Lib.hid hq
      have qq := ((free_of ((GG.block _ sV1 nV1.1).trans bV1.out)).1 yn).trans hq.out
      ((refine held_take (i := 6) 16 (v := ?_) rfl rfl (by kernel_rfl) (by kernel_rfl) (by kernel_rfl) (fun _ _ _ h => h) (by kernel_rfl) ?_ (by assumption) ?_; rotate_left 1; (focus (intro w hSw; (try dsimp only at hSw); go_simp; (try with_reducible rfl); done)); all_goals (try simp only [Act.put, List.setIfInBounds_toArray, List.set_cons_zero, List.set_cons_succ])))
      refine wpAnyH_ready (rs := [7, 8]) (by kernel_rfl) (by simp) ?_
      refine AllReadyH.cons rfl (fun K hK => ?_) (AllReadyH.cons rfl (fun K hK => ?_) (AllReadyH.nil))
      · go_simp
        refine hK.out _ _ (by exact C2.out.s hP3) (fun hHeld => ?_)
        clear hK K
        (try refine held_put 17 rfl ?_)
        (try simp only [Act.put, List.setIfInBounds_toArray, List.set_cons_zero, List.set_cons_succ])
        refine wpAnyH_ready (rs := [8]) (by kernel_rfl) (by simp) ?_
        refine AllReadyH.cons rfl (fun K hK => ?_) (AllReadyH.nil)
        · have CC := C2.out
          obtain ⟨u0, u1, u2, u3, u4, u5⟩ := cells_6 CC.box
          have uf := (free_of CC.box).2
          go_simp
          obtain ⟨V4, hV4⟩ : ∃ V, (((((V2.setCell ⟨w.heap.size, 0, none⟩ (.string t0.name)).setCell ⟨w.heap.size, 1, none⟩ (.slice A0 l0 k0)).setCell ⟨w.heap.size, 2, none⟩ (.slice A1 l1 k1)).setCell ⟨w.heap.size, 3, none⟩ (.slice A2 l2 k2)).setCell ⟨w.heap.size, 4, none⟩ (.slice A3 l3 k3)).setCell ⟨w.heap.size, 5, none⟩ (.slice A4 l4 k4) = V := ⟨_, rfl⟩
          have C4 := Lib.hid (CC.put rfl hV4)
          rw [hV4]
          refine hK.out _ _ (by exact C4.out.s hP3) (fun hHeld => ?_)
          clear hK K u0 u1 u2 u3 u4 u5 uf CC
          (try simp only [Act.put, List.setIfInBounds_toArray, List.set_cons_zero, List.set_cons_succ])
          ((refine held_take (i := 9) 3 (v := ?_) rfl rfl (by kernel_rfl) (by kernel_rfl) (by kernel_rfl) (fun _ _ _ h => h) (by kernel_rfl) ?_ (by assumption) ?_; rotate_left 1; (focus (intro w hSw; (try dsimp only at hSw); go_simp; (try with_reducible rfl); done)); all_goals (try simp only [Act.put, List.setIfInBounds_toArray, List.set_cons_zero, List.set_cons_succ])))
          refine wpAnyH_done (by kernel_rfl) ?_ _
          go_wp2
          have CF := C4.out
          obtain ⟨q0, q1, q2, q3, q4, q5⟩ := cells_6 CF.box
          go_wp2
          exact bodyPost_ret (v := .tuple #[.agg #[.string t0.name, .slice A0 l0 k0, .slice A1 l1 k1, .slice A2 l2 k2, .slice A3 l3 k3, .slice A4 l4 k4], .string nm]) (by simp [results, Try.results10, go_sem, q0, q1, q2, q3, q4, q5]) rfl (HFIN.out _ CF nm hnm)
      · have CC := C2.out
        obtain ⟨u0, u1, u2, u3, u4, u5⟩ := cells_6 CC.box
        have uf := (free_of CC.box).2
        go_simp
        obtain ⟨V5, hV5⟩ : ∃ V, (((((V2.setCell ⟨w.heap.size, 0, none⟩ (.string t0.name)).setCell ⟨w.heap.size, 1, none⟩ (.slice A0 l0 k0)).setCell ⟨w.heap.size, 2, none⟩ (.slice A1 l1 k1)).setCell ⟨w.heap.size, 3, none⟩ (.slice A2 l2 k2)).setCell ⟨w.heap.size, 4, none⟩ (.slice A3 l3 k3)).setCell ⟨w.heap.size, 5, none⟩ (.slice A4 l4 k4) = V := ⟨_, rfl⟩
        have C5 := Lib.hid (CC.put rfl hV5)
        rw [hV5]
        refine hK.out _ _ (by exact C5.out.s hP3) (fun hHeld => ?_)
        clear hK K u0 u1 u2 u3 u4 u5 uf CC
        (try simp only [Act.put, List.setIfInBounds_toArray, List.set_cons_zero, List.set_cons_succ])
        replace qq := (World.cell?_of_block (w := V2) (w' := V5) (by rw [← hV5]; exact setL_other V2 w.heap.size (show w2.heap.size ≠ w.heap.size by have := HZ.out; have := nV1.2; omega) 0 [.string t0.name, .slice A0 l0 k0, .slice A1 l1 k1, .slice A2 l2 k2, .slice A3 l3 k3, .slice A4 l4 k4])).trans qq
        refine wpAnyH_ready (rs := [7]) (by kernel_rfl) (by simp) ?_
        refine AllReadyH.cons rfl (fun K hK => ?_) (AllReadyH.nil)
        · go_simp
          refine hK.out _ _ (by exact C5.out.s hP3) (fun hHeld => ?_)
          clear hK K
          (try refine held_put 17 rfl ?_)
          (try simp only [Act.put, List.setIfInBounds_toArray, List.set_cons_zero, List.set_cons_succ])
          ((refine held_take (i := 9) 3 (v := ?_) rfl rfl (by kernel_rfl) (by kernel_rfl) (by kernel_rfl) (fun _ _ _ h => h) (by kernel_rfl) ?_ (by assumption) ?_; rotate_left 1; (focus (intro w hSw; (try dsimp only at hSw); go_simp; (try with_reducible rfl); done)); all_goals (try simp only [Act.put, List.setIfInBounds_toArray, List.set_cons_zero, List.set_cons_succ])))
          refine wpAnyH_done (by kernel_rfl) ?_ _
          go_wp2
          have CF := C5.out
          obtain ⟨q0, q1, q2, q3, q4, q5⟩ := cells_6 CF.box
          go_wp2
          exact bodyPost_ret (v := .tuple #[.agg #[.string t0.name, .slice A0 l0 k0, .slice A1 l1 k1, .slice A2 l2 k2, .slice A3 l3 k3, .slice A4 l4 k4], .string nm]) (by simp [results, Try.results10, go_sem, q0, q1, q2, q3, q4, q5]) rfl (HFIN.out _ CF nm hnm)
  · go_simp
    refine (below_any g _ _ (hR2.of_grow (Grow.refl _).drew) (by decide)).mono ?_
    rintro e V7 ⟨y, rfl, hy, hG, hR⟩
    obtain ⟨yn, rfl, y1, y0⟩ := below_nat hy (by decide)
    have GG : GrowX g w2 V7 := ((GrowX.refl g w2).drew).trans hG
    have C7 := Lib.hid (HC2.out.growX HZ.out hg0.symm GG)
    refine hK.out _ _ (by exact C7.out.s hP3) (fun hHeld => ?_)
    clear hK K hy
    (try refine held_put 15 rfl ?_)
    (try simp only [Act.put, List.setIfInBounds_toArray, List.set_cons_zero, List.set_cons_succ])
    obtain ⟨nm, hq, hnm⟩ := strs4 ⟨#[107]⟩ ⟨#[116]⟩ ⟨#[110]⟩ ⟨#[120]⟩ (by decide) (y := yn) (by omega)
    replace hq := Lib.hid hq
    refine wpAnyH_ready (rs := [3, 8]) (by kernel_rfl) (by simp) ?_
    refine AllReadyH.cons rfl (fun K hK => ?_) (AllReadyH.cons rfl (fun K hK => ?_) (AllReadyH.nil))
    · go_simp
      obtain ⟨V8, hV8⟩ : ∃ V, V7.alloc (.cells #[.string ⟨#[107]⟩, .string ⟨#[116]⟩, .string ⟨#[110]⟩, .string ⟨#[120]⟩] 9) = V := ⟨_, rfl⟩
      have gV8 : Grow V7 V8 := by rw [← hV8]; exact (Grow.refl _).alloc _
      have bV8 := Lib.hid (show V8.heap[V7.heap.size]? = some (.cells #[.string ⟨#[107]⟩, .string ⟨#[116]⟩, .string ⟨#[110]⟩, .string ⟨#[120]⟩] 9 (0, 0)) by rw [← hV8]; exact new_block _ _)
      have sV8 : V7.heap.size < V8.heap.size := by rw [← hV8]; simp
      have C8 := Lib.hid (C7.out.grow HZ.out gV8)
      have nV8 : V7.heap.size ≠ g ∧ w2.heap.size ≤ V7.heap.size := by have := hR2.lt; have := C7.out.sz; omega
      refine hK.out _ _ (by exact (C7.out.grow HZ.out ((Grow.refl _).alloc _)).s hP3) (fun hHeld => ?_)
      clear hK K
      (try refine held_put 13 rfl ?_)
      (try simp only [Act.put, List.setIfInBounds_toArray, List.set_cons_zero, List.set_cons_succ])
      rw [hV8] at hHeld ⊢
      have qq := ((free_of bV8.out).1 yn).trans hq.out
      ((refine held_take (i := 6) 16 (v := ?_) rfl rfl (by kernel_rfl) (by kernel_rfl) (by kernel_rfl) (fun _ _ _ h => h) (by kernel_rfl) ?_ (by assumption) ?_; rotate_left 1; (focus (intro w hSw; (try dsimp only at hSw); go_simp; (try with_reducible rfl); done)); all_goals (try simp only [Act.put, List.setIfInBounds_toArray, List.set_cons_zero, List.set_cons_succ])))
      refine wpAnyH_ready (rs := [7, 8]) (by kernel_rfl) (by simp) ?_
      refine AllReadyH.cons rfl (fun K hK => ?_) (AllReadyH.cons rfl (fun K hK => ?_) (AllReadyH.nil))
      · go_simp
        refine hK.out _ _ (by exact C8.out.s hP3) (fun hHeld => ?_)
        clear hK K
        (try refine held_put 17 rfl ?_)
        (try simp only [Act.put, List.setIfInBounds_toArray, List.set_cons_zero, List.set_cons_succ])
        refine wpAnyH_ready (rs := [8]) (by kernel_rfl) (by simp) ?_
        refine AllReadyH.cons rfl (fun K hK => ?_) (AllReadyH.nil)
        · have CC := C8.out
          obtain ⟨u0, u1, u2, u3, u4, u5⟩ := cells_6 CC.box
          have uf := (free_of CC.box).2
          go_simp
          obtain ⟨V10, hV10⟩ : ∃ V, (((((V8.setCell ⟨w.heap.size, 0, none⟩ (.string t0.name)).setCell ⟨w.heap.size, 1, none⟩ (.slice A0 l0 k0)).setCell ⟨w.heap.size, 2, none⟩ (.slice A1 l1 k1)).setCell ⟨w.heap.size, 3, none⟩ (.slice A2 l2 k2)).setCell ⟨w.heap.size, 4, none⟩ (.slice A3 l3 k3)).setCell ⟨w.heap.size, 5, none⟩ (.slice A4 l4 k4) = V := ⟨_, rfl⟩
          have C10 := Lib.hid (CC.put rfl hV10)
          rw [hV10]
          refine hK.out _ _ (by exact C10.out.s hP3) (fun hHeld => ?_)
          clear hK K u0 u1 u2 u3 u4 u5 uf CC
          (try simp only [Act.put, List.setIfInBounds_toArray, List.set_cons_zero, List.set_cons_succ])
          ((refine held_take (i := 9) 3 (v := ?_) rfl rfl (by kernel_rfl) (by kernel_rfl) (by kernel_rfl) (fun _ _ _ h => h) (by kernel_rfl) ?_ (by assumption) ?_; rotate_left 1; (focus (intro w hSw; (try dsimp only at hSw); go_simp; (try with_reducible rfl); done)); all_goals (try simp only [Act.put, List.setIfInBounds_toArray, List.set_cons_zero, List.set_cons_succ])))
          refine wpAnyH_done (by kernel_rfl) ?_ _
          go_wp2
          have CF := C10.out
          obtain ⟨q0, q1, q2, q3, q4, q5⟩ := cells_6 CF.box
          go_wp2
          exact bodyPost_ret (v := .tuple #[.agg #[.string t0.name, .slice A0 l0 k0, .slice A1 l1 k1, .slice A2 l2 k2, .slice A3 l3 k3, .slice A4 l4 k4], .string nm]) (by simp [results, Try.results10, go_sem, q0, q1, q2, q3, q4, q5]) rfl (HFIN.out _ CF nm hnm)
      · have CC := C8.out
        obtain ⟨u0, u1, u2, u3, u4, u5⟩ := cells_6 CC.box
        have uf := (free_of CC.box).2
        go_simp
        obtain ⟨V11, hV11⟩ : ∃ V, (((((V8.setCell ⟨w.heap.size, 0, none⟩ (.string t0.name)).setCell ⟨w.heap.size, 1, none⟩ (.slice A0 l0 k0)).setCell ⟨w.heap.size, 2, none⟩ (.slice A1 l1 k1)).setCell ⟨w.heap.size, 3, none⟩ (.slice A2 l2 k2)).setCell ⟨w.heap.size, 4, none⟩ (.slice A3 l3 k3)).setCell ⟨w.heap.size, 5, none⟩ (.slice A4 l4 k4) = V := ⟨_, rfl⟩
        have C11 := Lib.hid (CC.put rfl hV11)
        rw [hV11]
        refine hK.out _ _ (by exact C11.out.s hP3) (fun hHeld => ?_)
        clear hK K u0 u1 u2 u3 u4 u5 uf CC
        (try simp only [Act.put, List.setIfInBounds_toArray, List.set_cons_zero, List.set_cons_succ])
        replace qq := (World.cell?_of_block (w := V8) (w' := V11) (by rw [← hV11]; exact setL_other V8 w.heap.size (show V7.heap.size ≠ w.heap.size by have := HZ.out; have := nV8.2; omega) 0 [.string t0.name, .slice A0 l0 k0, .slice A1 l1 k1, .slice A2 l2 k2, .slice A3 l3 k3, .slice A4 l4 k4])).trans qq
        refine wpAnyH_ready (rs := [7]) (by kernel_rfl) (by simp) ?_
        refine AllReadyH.cons rfl (fun K hK => ?_) (AllReadyH.nil)
        · go_simp
          refine hK.out _ _ (by exact C11.out.s hP3) (fun hHeld => ?_)
          clear hK K
          (try refine held_put 17 rfl ?_)
          (try simp only [Act.put, List.setIfInBounds_toArray, List.set_cons_zero, List.set_cons_succ])
          ((refine held_take (i := 9) 3 (v := ?_) rfl rfl (by kernel_rfl) (by kernel_rfl) (by kernel_rfl) (fun _ _ _ h => h) (by kernel_rfl) ?_ (by assumption) ?_; rotate_left 1; (focus (intro w hSw; (try dsimp only at hSw); go_simp; (try with_reducible rfl); done)); all_goals (try simp only [Act.put, List.setIfInBounds_toArray, List.set_cons_zero, List.set_cons_succ])))
          refine wpAnyH_done (by kernel_rfl) ?_ _
          go_wp2
          have CF := C11.out
          obtain ⟨q0, q1, q2, q3, q4, q5⟩ := cells_6 CF.box
          go_wp2
          exact bodyPost_ret (v := .tuple #[.agg #[.string t0.name, .slice A0 l0 k0, .slice A1 l1 k1, .slice A2 l2 k2, .slice A3 l3 k3, .slice A4 l4 k4], .string nm]) (by simp [results, Try.results10, go_sem, q0, q1, q2, q3, q4, q5]) rfl (HFIN.out _ CF nm hnm)
    · have CC := C7.out
      obtain ⟨u0, u1, u2, u3, u4, u5⟩ := cells_6 CC.box
      have uf := (free_of CC.box).2
      go_simp
      obtain ⟨V13, hV13⟩ : ∃ V, (((((V7.setCell ⟨w.heap.size, 0, none⟩ (.string t0.name)).setCell ⟨w.heap.size, 1, none⟩ (.slice A0 l0 k0)).setCell ⟨w.heap.size, 2, none⟩ (.slice A1 l1 k1)).setCell ⟨w.heap.size, 3, none⟩ (.slice A2 l2 k2)).setCell ⟨w.heap.size, 4, none⟩ (.slice A3 l3 k3)).setCell ⟨w.heap.size, 5, none⟩ (.slice A4 l4 k4) = V := ⟨_, rfl⟩
      have C13 := Lib.hid (CC.put rfl hV13)
      rw [hV13]
      refine hK.out _ _ (by exact C13.out.s hP3) (fun hHeld => ?_)
      clear hK K u0 u1 u2 u3 u4 u5 uf CC
      (try simp only [Act.put, List.setIfInBounds_toArray, List.set_cons_zero, List.set_cons_succ])
      refine wpAnyH_ready (rs := [3]) (by kernel_rfl) (by simp) ?_
      refine AllReadyH.cons rfl (fun K hK => ?_) (AllReadyH.nil)
      · go_simp
        obtain ⟨V14, hV14⟩ : ∃ V, V13.alloc (.cells #[.string ⟨#[107]⟩, .string ⟨#[116]⟩, .string ⟨#[110]⟩, .string ⟨#[120]⟩] 9) = V := ⟨_, rfl⟩
        have gV14 : Grow V13 V14 := by rw [← hV14]; exact (Grow.refl _).alloc _
        have bV14 := Lib.hid (show V14.heap[V13.heap.size]? = some (.cells #[.string ⟨#[107]⟩, .string ⟨#[116]⟩, .string ⟨#[110]⟩, .string ⟨#[120]⟩] 9 (0, 0)) by rw [← hV14]; exact new_block _ _)
        have sV14 : V13.heap.size < V14.heap.size := by rw [← hV14]; simp
        have C14 := Lib.hid (C13.out.grow HZ.out gV14)
        have nV14 : V13.heap.size ≠ g ∧ w2.heap.size ≤ V13.heap.size := by have := hR2.lt; have := C13.out.sz; omega
        refine hK.out _ _ (by exact (C13.out.grow HZ.out ((Grow.refl _).alloc _)).s hP3) (fun hHeld => ?_)
        clear hK K
        (try refine held_put 13 rfl ?_)
        (try simp only [Act.put, List.setIfInBounds_toArray, List.set_cons_zero, List.set_cons_succ])
        rw [hV14] at hHeld ⊢
        have qq := ((free_of bV14.out).1 yn).trans hq.out
        ((refine held_take (i := 6) 16 (v := ?_) rfl rfl (by kernel_rfl) (by kernel_rfl) (by kernel_rfl) (fun _ _ _ h => h) (by kernel_rfl) ?_ (by assumption) ?_; rotate_left 1; (focus (intro w hSw; (try dsimp only at hSw); go_simp; (try with_reducible rfl); done)); all_goals (try simp only [Act.put, List.setIfInBounds_toArray, List.set_cons_zero, List.set_cons_succ])))
        refine wpAnyH_ready (rs := [7]) (by kernel_rfl) (by simp) ?_
        refine AllReadyH.cons rfl (fun K hK => ?_) (AllReadyH.nil)
        · go_simp
          refine hK.out _ _ (by exact C14.out.s hP3) (fun hHeld => ?_)
          clear hK K
          (try refine held_put 17 rfl ?_)
          (try simp only [Act.put, List.setIfInBounds_toArray, List.set_cons_zero, List.set_cons_succ])
          ((refine held_take (i := 9) 3 (v := ?_) rfl rfl (by kernel_rfl) (by kernel_rfl) (by kernel_rfl) (fun _ _ _ h => h) (by kernel_rfl) ?_ (by assumption) ?_; rotate_left 1; (focus (intro w hSw; (try dsimp only at hSw); go_simp; (try with_reducible rfl); done)); all_goals (try simp only [Act.put, List.setIfInBounds_toArray, List.set_cons_zero, List.set_cons_succ])))
          refine wpAnyH_done (by kernel_rfl) ?_ _
          go_wp2
          have CF := C14.out
          obtain ⟨q0, q1, q2, q3, q4, q5⟩ := cells_6 CF.box
          go_wp2
          exact bodyPost_ret (v := .tuple #[.agg #[.string t0.name, .slice A0 l0 k0, .slice A1 l1 k1, .slice A2 l2 k2, .slice A3 l3 k3, .slice A4 l4 k4], .string nm]) (by simp [results, Try.results10, go_sem, q0, q1, q2, q3, q4, q5]) rfl (HFIN.out _ CF nm hnm)
end Go.Proofs.Ytjeilgogjoidjaa
