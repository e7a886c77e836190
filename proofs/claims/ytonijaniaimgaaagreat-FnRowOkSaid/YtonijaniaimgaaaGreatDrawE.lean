import Derived.Test.YtonijaniaimgaaaGreatBundle
/-! What is drawn for RowOk. -/
namespace Go.Proofs.YtonijaniaimgaaaGreat
open Go.RowKit
set_option linter.unusedVariables false
set_option linter.unusedSimpArgs false
theorem six_put {wr V X : World} {gg g : Nat} {z0 z1 z2 z3 z4 z5 : Value} {T : TypeId} (hg : GrowX gg wr V) (h : V.heap[g]? = some (.cells #[z0, z1, z2, z3, z4, z5] T (0, 0))) (hB : wr.heap.size ≤ g) {a b c d e f : Value}
    (hX : (((((V.setCell ⟨g, 0, none⟩ a).setCell ⟨g, 1, none⟩ b).setCell ⟨g, 2, none⟩ c).setCell ⟨g, 3, none⟩ d).setCell ⟨g, 4, none⟩ e).setCell ⟨g, 5, none⟩ f = X) :
    GrowX gg wr X ∧ X.heap[g]? = some (.cells #[a, b, c, d, e, f] T (0, 0)) ∧ X.heap.size = V.heap.size ∧ ∀ q, q ≠ g → X.heap[q]? = V.heap[q]? := by
  subst hX
  exact ⟨(((((hg.put hB _).put hB _).put hB _).put hB _).put hB _).put hB _, setL_own h 0 [a, b, c, d, e, f], setL_size V g 0 [a, b, c, d, e, f], fun q hq => setL_other V g hq 0 [a, b, c, d, e, f]⟩
theorem cells_six {w : World} {P : Nat} {a b c d e f : Value} {T : TypeId} (h : w.heap[P]? = some (.cells #[a, b, c, d, e, f] T (0, 0))) :
    w.cell? ⟨P, 0, none⟩ = some a ∧ w.cell? ⟨P, 1, none⟩ = some b ∧ w.cell? ⟨P, 2, none⟩ = some c ∧ w.cell? ⟨P, 3, none⟩ = some d ∧ w.cell? ⟨P, 4, none⟩ = some e ∧ w.cell? ⟨P, 5, none⟩ = some f :=
  ⟨(free_of h).1 0, (free_of h).1 1, (free_of h).1 2, (free_of h).1 3, (free_of h).1 4, (free_of h).1 5⟩
/-- A store into a box that holds no byte leaves the reader. -/
theorem IsRd.box {w w' : World} {g q : Nat} {cs : Array Value} {T : TypeId} {fr : Nat × Nat} (h : IsRd w g) (hq : w.heap[q]? = some (.cells cs T fr)) (hno : ∀ (i : Nat) (n : Int), cs[i]? ≠ some (.int .u8 n)) (hqg : q ≠ g)
    (hw : ∀ b, b ≠ q → b ≤ g → w'.heap[b]? = w.heap[b]?) : IsRd w' g := by
  obtain ⟨A, len, cap, xs, p, h1, h3, h4⟩ := h
  refine ⟨A, len, cap, xs, p, h1, by rw [hw g hqg.symm (Nat.le_refl _)]; exact h3, ?_⟩
  obtain ⟨k1, k2, k3, k4⟩ := h4
  refine ⟨k1, k2, k3, fun hl => ?_⟩
  obtain ⟨b, off, hA, hb, hi⟩ := k4 hl
  have hbq : b ≠ q := fun e => by
    subst e
    obtain ⟨cs', hc, hr⟩ := hi 0 (by omega)
    have h0 := hc 0 (by decide)
    simp only [Kd.byte] at hr
    obtain ⟨rfl, _⟩ := hr
    rw [cell_of hq] at h0
    exact hno _ _ h0
  refine ⟨b, off, hA, hb, fun i hx => ?_⟩
  obtain ⟨cs', hc, hr⟩ := hi i hx
  exact ⟨cs', fun j hj => by rw [World.cell?_of_block (w := w) (hw b hbq (Nat.le_of_lt hb))]; exact hc j hj, hr⟩
/-- A table and a row are handed back. -/
def RowDrawn (w : World) (e : Ending) (w' : World) : Prop := ∃ (cs : List Value) (t : Table) (B : Option Addr) (n c : Nat) (vs : List Val), e = .returned (.tuple #[.agg cs.toArray, .slice B n c]) ∧
  Kd.table.rd w' (Fresh w.heap.size w') cs t ∧ IsSl Kd.val w' (Fresh w.heap.size w') B n c vs ∧ Grow w w'
set_option maxRecDepth 20000 in
set_option maxHeartbeats 8000000 in
theorem drawRowOk_any {A : Option Addr} {len cap : Nat} {xs : List Int} (w : World) (h : IsSl Kd.byte w (· < w.heap.size) A len cap xs) :
    Calls Tryz.prog 36 #[.slice A len cap] w (RowDrawn w) := by
  go_enter Tryz.func36, Tryz.ntmps36
  go_wp2_with fail
  generalize hW : World.alloc w _ = W0
  obtain ⟨g0, s0, b0⟩ := boxedB hW
  clear hW
  refine (l1Open_any W0 (h.grow g0)).mono ?_
  rintro e w1 ⟨g, rfl, hg, hG1, hR1⟩
  have hgl := hR1.lt
  have hg0 : g ≠ w.heap.size := by omega
  go_wp2_with fail
  refine (schema_any g _ hR1).mono ?_
  rintro e w2 ⟨A2, n2, c2, s2, rfl, own2, h1, h3, hb, hG2, hR2⟩
  have hn : (n2 : Int) ≤ 65536 := by omega
  go_wp2_with fail
  refine (below_any g _ _ hR2 hn).mono ?_
  rintro e w3 ⟨y, rfl, hy, hG3, hR3⟩
  have hy0 : 0 ≤ y ∧ y < (n2 : Int) := by unfold RdBelow at hy; omega
  clear hy
  obtain ⟨yn, rfl⟩ : ∃ yn : Nat, y = (yn : Int) := ⟨y.toNat, by omega⟩
  obtain ⟨y0, y1⟩ := hy0
  have G03 : GrowX g W0 w3 := (GrowX.of hG1).trans (hG2.trans hG3)
  have b3 := Lib.hid ((G03.block _ s0 hg0.symm).trans b0)
  have s3 := Nat.lt_of_lt_of_le s0 G03.size
  have isl3 := (own2.growX hG3 hgl).isSl
  obtain ⟨bT, oT, t, T0, p0, d0, T1, p1, d1, T2, p2, d2, T3, p3, d3, T4, p4, d4, rfl, hxt, hST, hbT, hnm, e0, e1, e2, e3, e4, e5, _, _, _, _, _, hrd⟩ := table_at isl3 (i := yn) (by omega)
  have htb := hb t (List.mem_of_getElem? hxt.out)
  have HRD := Lib.hid hrd
  clear hxt hST hrd isl3
  go_wp2_with fail
  generalize hV : World.alloc w3 _ = V
  obtain ⟨gV, sV, bV⟩ := boxedB hV
  clear hV
  obtain ⟨PB, hPB⟩ : ∃ PB, PB = w3.heap.size := ⟨_, rfl⟩
  rw [← hPB] at bV sV ⊢
  have B3 := (gV.block s3).trans b3.out
  have s3V := Nat.lt_of_lt_of_le s3 gV.size
  have hw1 : w.heap.size ≤ w1.heap.size := Nat.le_trans g0.size hG1.size
  have hPg : g < PB := by rw [hPB]; exact hR3.lt
  have GW3 : GrowX g w w3 := (GrowX.of g0).trans G03
  have GWV : GrowX g w V := GW3.trans (GrowX.of gV)
  have hPw : PB ≠ w.heap.size := by omega
  have hP3 : w3.heap.size ≤ PB := Nat.le_of_eq hPB.symm
  clear hPB
  obtain ⟨v0, v1, v2, v3, v4, v5⟩ := cells_six bV
  refine wp_region_held_drew (S := (fun w' => GrowX g w w' ∧ w'.cell? ⟨PB, 0, none⟩ = some (.string t.name) ∧ w'.cell? ⟨PB, 1, none⟩ = some (.slice T0 p0 d0) ∧ w'.cell? ⟨PB, 2, none⟩ = some (.slice T1 p1 d1) ∧ w'.cell? ⟨PB, 3, none⟩ = some (.slice T2 p2 d2) ∧ w'.cell? ⟨PB, 4, none⟩ = some (.slice T3 p3 d3) ∧ w'.cell? ⟨PB, 5, none⟩ = some (.slice T4 p4 d4))) (by kernel_rfl) (by exact ⟨GWV.drew, cells_six bV⟩) (fun hHeld => ?_)
  ((refine tk 0 18 rfl rfl (v := ?_) ?_ ?_; rotate_left 1; (focus (intro w hSw; (try dsimp only at hSw); go_simp; (try with_reducible rfl); done)); all_goals (try simp only [Act.put, List.setIfInBounds_toArray, List.set_cons_zero, List.set_cons_succ])); (refine tk 1 19 rfl rfl (v := ?_) ?_ ?_; rotate_left 1; (focus (intro w hSw; (try dsimp only at hSw); go_simp; (try with_reducible rfl); done)); all_goals (try simp only [Act.put, List.setIfInBounds_toArray, List.set_cons_zero, List.set_cons_succ])); (refine tk 2 20 rfl rfl (v := ?_) ?_ ?_; rotate_left 1; (focus (intro w hSw; (try dsimp only at hSw); go_simp; (try with_reducible rfl); done)); all_goals (try simp only [Act.put, List.setIfInBounds_toArray, List.set_cons_zero, List.set_cons_succ])))
  have hwV : w.heap.size ≤ V.heap.size := by omega
  have hwg : w.heap.size ≤ g := by omega
  refine wpAnyH_ready (rs := [3]) (by kernel_rfl) (by simp) ?_
  refine AllReadyH.cons rfl (fun K hK => ?_) AllReadyH.nil
  · go_simp
    refine (drawFit_any g _ ((hR3.of_grow gV).of_grow (Grow.refl _).drew) (Kd.table.mono HRD.out (fun b hb => ⟨Nat.lt_of_lt_of_le hb.2.1 (gV.size), by have := hb.1; omega⟩) (fun b hb => (fun b _ h2 => gV.block h2) b hb.1 hb.2.1)) (by omega)).mono ?_
    rintro e w4 ⟨A4, n4, c4, vs, rfl, own4, hvl, hG4, hR4⟩
    have GW4 : GrowX g w w4 := GWV.trans (((GrowX.refl g V).drew).trans hG4)
    have B4 := (hG4.block PB sV (by omega)).trans bV
    have Z4 := (hG4.block _ s3V hg0.symm).trans B3
    have z4s : w.heap.size < w4.heap.size := Nat.lt_of_lt_of_le s3V hG4.size
    refine hK.out _ _ (by exact ⟨GW4, cells_six (B4)⟩) (fun hHeld => ?_)
    clear hK K
    (try refine held_put 21 rfl ?_)
    (try simp only [Act.put, List.setIfInBounds_toArray, List.set_cons_zero, List.set_cons_succ])
    refine wpAnyH_ready (rs := [4]) (by kernel_rfl) (by simp) ?_
    refine AllReadyH.cons rfl (fun K hK => ?_) AllReadyH.nil
    obtain ⟨k0, f0⟩ := free_of Z4
    have k00 := k0 0
    have k01 := k0 1
    have k02 := k0 2
    have k03 := k0 3
    have k04 := k0 4
    have k05 := k0 5
    simp only [List.getElem?_toArray, List.getElem?_cons_succ, List.getElem?_cons_zero] at k00 k01 k02 k03 k04 k05
    go_simp
    obtain ⟨X, hX⟩ : ∃ X, (((((w4.setCell ⟨w.heap.size, 0, none⟩ (.string t.name)).setCell ⟨w.heap.size, 1, none⟩ (.slice T0 p0 d0)).setCell ⟨w.heap.size, 2, none⟩ (.slice T1 p1 d1)).setCell ⟨w.heap.size, 3, none⟩ (.slice T2 p2 d2)).setCell ⟨w.heap.size, 4, none⟩ (.slice T3 p3 d3)).setCell ⟨w.heap.size, 5, none⟩ (.slice T4 p4 d4) = X := ⟨_, rfl⟩
    obtain ⟨GF, BF, sX, oX⟩ := six_put GW4 Z4 (Nat.le_refl _) hX
    rw [hX]
    have KPF : ∀ b, w1.heap.size ≤ b → b < w3.heap.size → X.heap[b]? = w3.heap[b]? := fun b h1 h2 => by
      rw [oX b (by omega), hG4.block b (Nat.lt_of_lt_of_le h2 gV.size) (by omega)]
      exact gV.block h2
    have SZF : w3.heap.size ≤ X.heap.size := by rw [sX]; exact Nat.le_trans gV.size hG4.size
    have ownF := own4.keep (w' := X) (Nat.le_of_eq sX.symm) (fun b h1 _ => oX b (by have : V.heap.size ≤ b := h1; omega))
    refine hK.out _ _ (by exact ⟨GF, cells_six ((oX PB (by omega)).trans B4)⟩) (fun hHeld => ?_)
    clear hK K
    (try simp only [Act.put, List.setIfInBounds_toArray, List.set_cons_zero, List.set_cons_succ])
    ((refine tk 5 3 rfl rfl (v := ?_) ?_ ?_; rotate_left 1; (focus (intro w hSw; (try dsimp only at hSw); go_simp; (try with_reducible rfl); done)); all_goals (try simp only [Act.put, List.setIfInBounds_toArray, List.set_cons_zero, List.set_cons_succ])))
    clear hHeld
    refine wpAnyH_done (by kernel_rfl) ?_ _
    obtain ⟨q0, q1, q2, q3, q4, q5⟩ := cells_six BF
    go_wp2
    exact bodyPost_ret (v := .tuple #[.agg #[.string t.name, .slice T0 p0 d0, .slice T1 p1 d1, .slice T2 p2 d2, .slice T3 p3 d3, .slice T4 p4 d4], .slice A4 n4 c4]) (by simp [results, Tryz.results36, go_sem, q0, q1, q2, q3, q4, q5]) rfl
      ⟨[.string t.name, .slice T0 p0 d0, .slice T1 p1 d1, .slice T2 p2 d2, .slice T3 p3 d3, .slice T4 p4 d4], t, A4, n4, c4, vs, rfl, Kd.table.mono HRD.out (fun b hb => (hb.step SZF (KPF b hb.1 hb.2.1)).low hw1) (fun b hb => KPF b hb.1 hb.2.1), (ownF.low hwV).isSl, GF.grow (Grow.refl w) hwg⟩
end Go.Proofs.YtonijaniaimgaaaGreat
