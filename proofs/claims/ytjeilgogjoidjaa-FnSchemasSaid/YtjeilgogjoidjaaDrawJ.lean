import Derived.Test.YtjeilgogjoidjaaDrawH
import Derived.Test.YtjeilgogjoidjaaFull
/-! What is drawn for TableOk. -/
namespace Go.Proofs.Ytjeilgogjoidjaa
open Go.RowKit
set_option linter.unusedVariables false
set_option linter.unusedSimpArgs false
theorem info_uniqueJ : (Try.prog.info? 92).map (fun i => (i.zero, i.size, i.bytes)) = some (some (.agg #[.slice none 0 0]), 1, 24) := by kernel_rfl
theorem ones_uniqueJ : Ones Kd.unique := fun w S cs a h u hu => by
  obtain ⟨_, _, _, rfl, _⟩ := h
  simp only [List.mem_cons, List.not_mem_nil, or_false] at hu
  subst hu; rfl
theorem elem_uniqueJ : ElemOk Try.prog 30 92 1 24 := elemOk_of Try.underlying30 info_uniqueJ rfl (by decide)
/-- The cells of a table among some. -/
theorem tabU_at {E : TypeId} {B P n c : Nat} {w : World} {s : List Table} (h : OwnG Kd.tableU E B w (some ⟨P, 0, none⟩) n c s) {i : Nat} (hi : i < n) : ∃ (t : Table) (A0 A1 A2 A3 A4 : Option Addr) (l0 c0 l1 c1 l2 l3 c3 l4 c4 : Nat), Hid (s[i]? = some t) ∧
    Kd.table.rd w (Led B w (some ⟨P, 0, none⟩)) [.string t.name, .slice A0 l0 c0, .slice A1 l1 c1, .slice A2 l2 l2, .slice A3 l3 c3, .slice A4 l4 c4] t ∧ l2 ≤ 1 ∧ B ≤ P ∧ P < w.heap.size ∧
    w.cell? ⟨P, i * 6, none⟩ = some (.string t.name) ∧ w.cell? ⟨P, i * 6 + 1, none⟩ = some (.slice A0 l0 c0) ∧ w.cell? ⟨P, i * 6 + 2, none⟩ = some (.slice A1 l1 c1) ∧ w.cell? ⟨P, i * 6 + 3, none⟩ = some (.slice A2 l2 l2) ∧ w.cell? ⟨P, i * 6 + 4, none⟩ = some (.slice A3 l3 c3) ∧ w.cell? ⟨P, i * 6 + 5, none⟩ = some (.slice A4 l4 c4) := by
  have hb := h.baseB P rfl
  obtain ⟨rows, ⟨hr, h0 | ⟨g, cap', cur, hv, hB, hh, hle, hmx, hz, ht⟩⟩, h2, h3⟩ := h
  · cases h0.1
  · simp only [Value.slice.injEq, Option.some.injEq, Addr.mk.injEq, and_true, true_and] at hv
    obtain ⟨rfl, rfl⟩ := hv
    have hil : i < s.length := by omega
    obtain ⟨cs, hc, hrd⟩ := h2.get (List.getElem?_eq_getElem hil)
    obtain ⟨⟨A0, l0, c0, A1, l1, c1, A2, l2, c2, A3, l3, c3, A4, l4, c4, rfl, hq⟩, U, m, hU, hm1⟩ := hrd
    simp only [List.getElem?_cons_succ, List.getElem?_cons_zero, Option.some.injEq, Value.slice.injEq] at hU
    obtain ⟨hU1, hU2, hU3⟩ := hU
    obtain rfl : c2 = l2 := by omega
    have hl21 : c2 ≤ 1 := by omega
    clear hU1 hU2 hU3 hm1 U m
    have hat : ∀ j v, j < 6 → ([.string s[i].name, .slice A0 l0 c0, .slice A1 l1 c1, .slice A2 c2 c2, .slice A3 l3 c3, .slice A4 l4 c4] : List Value)[j]? = some v → w.cell? ⟨P, i * 6 + j, none⟩ = some v := fun j v hj hv => by
      have h1 := hc j hj
      rw [hv] at h1
      have hk : i * Kd.tableU.n + j < n * Kd.tableU.n := by
        show i * 6 + j < n * 6
        omega
      rw [← ht, List.getElem?_take_of_lt hk, Array.getElem?_toList] at h1
      rw [cell_of hh]
      exact h1
    exact ⟨s[i], A0, A1, A2, A3, A4, l0, c0, l1, c1, c2, l3, c3, l4, c4, Lib.hid (List.getElem?_eq_getElem hil), ⟨_, _, _, _, _, _, _, _, _, _, _, _, _, _, _, rfl, hq⟩, hl21, hB, hb.2, hat 0 _ (by decide) rfl, hat 1 _ (by decide) rfl, hat 2 _ (by decide) rfl, hat 3 _ (by decide) rfl, hat 4 _ (by decide) rfl, hat 5 _ (by decide) rfl⟩
theorem rd_name {w : World} {S : Nat → Prop} {n a b c d e : Value} {t : Table} (h : Kd.table.rd w S [n, a, b, c, d, e] t) {nm : ByteArray} (hn : nm.size ≤ maxLen) : Kd.table.rd w S [.string nm, a, b, c, d, e] { t with name := nm } := by
  obtain ⟨_, _, _, _, _, _, _, _, _, _, _, _, _, _, _, hcs, _, r⟩ := h
  simp only [List.cons.injEq, and_true] at hcs
  obtain ⟨-, rfl, rfl, rfl, rfl, rfl⟩ := hcs
  exact ⟨_, _, _, _, _, _, _, _, _, _, _, _, _, _, _, rfl, hn, r⟩
theorem rd_uniques {w : World} {S : Nat → Prop} {n a b c d e : Value} {t : Table} (h : Kd.table.rd w S [n, a, b, c, d, e] t) {A : Option Addr} {l m : Nat} {us : List Unique} (hu : IsSl Kd.unique w S A l m us) : Kd.table.rd w S [n, a, b, .slice A l m, d, e] { t with uniques := us } := by
  obtain ⟨_, _, _, _, _, _, _, _, _, _, _, _, _, _, _, hcs, hn, r1, r2, _, r4, r5⟩ := h
  simp only [List.cons.injEq, and_true] at hcs
  obtain ⟨rfl, rfl, rfl, -, rfl, rfl⟩ := hcs
  exact ⟨_, _, _, _, _, _, _, _, _, _, _, _, _, _, _, rfl, hn, r1, r2, hu, r4, r5⟩
theorem rd_cols {w : World} {S : Nat → Prop} {n b c d e : Value} {A : Option Addr} {l m : Nat} {t : Table} (h : Kd.table.rd w S [n, .slice A l m, b, c, d, e] t) : IsSl Kd.col w S A l m t.cols := by
  obtain ⟨_, _, _, _, _, _, _, _, _, _, _, _, _, _, _, hcs, _, r1, _⟩ := h
  simp only [List.cons.injEq, Value.slice.injEq] at hcs
  obtain ⟨_, ⟨rfl, rfl, rfl⟩, _⟩ := hcs
  exact r1
theorem rd_uq {w : World} {S : Nat → Prop} {n a b d e : Value} {A : Option Addr} {l m : Nat} {t : Table} (h : Kd.table.rd w S [n, a, b, .slice A l m, d, e] t) : IsSl Kd.unique w S A l m t.uniques := by
  obtain ⟨_, _, _, _, _, _, _, _, _, _, _, _, _, _, _, hcs, _, _, _, r3, _⟩ := h
  simp only [List.cons.injEq, Value.slice.injEq] at hcs
  obtain ⟨_, _, _, ⟨rfl, rfl, rfl⟩, _⟩ := hcs
  exact r3
theorem own_put3 {E : TypeId} {B : Nat} {w : World} {A : Option Addr} {n c q o : Nat} {s : List Table} {a b : Int} {z : ByteArray} (own : OwnG Kd.tableU E B w A n c s) (e3 : w.cell? ⟨q, o, none⟩ = some (.int .i64 a)) (e4 : w.cell? ⟨q, o + 1, none⟩ = some (.int .i64 b)) (e5 : w.cell? ⟨q, o + 1 + 1, none⟩ = some (.string z)) (v : Val) (hv : v.s.size ≤ maxLen) :
    ∃ ys, OwnG Kd.tableU E B (setL w q o [.int .i64 v.kind, .int .i64 v.n, .string v.s]) A n c ys := by
  obtain ⟨y1, o1, _⟩ := own.simPut simsLen_tableU e3 (SimS.int .i64 a v.kind)
  have f4 : (w.setCell ⟨q, o, none⟩ (.int .i64 v.kind)).cell? ⟨q, o + 1, none⟩ = some (.int .i64 b) := (World.cell?_setCell_other _ _ _ _ (fun e => by simp at e)).trans e4
  obtain ⟨y2, o2, _⟩ := o1.simPut simsLen_tableU f4 (SimS.int .i64 b v.n)
  have f5 : ((w.setCell ⟨q, o, none⟩ (.int .i64 v.kind)).setCell ⟨q, o + 1, none⟩ (.int .i64 v.n)).cell? ⟨q, o + 1 + 1, none⟩ = some (.string z) := (World.cell?_setCell_other _ _ _ _ (fun e => by simp at e)).trans ((World.cell?_setCell_other _ _ _ _ (fun e => by simp at e)).trans e5)
  obtain ⟨y3, o3, _⟩ := o2.simPut simsLen_tableU f5 (SimS.str z hv)
  exact ⟨y3, o3⟩
theorem tabU_same {E : TypeId} {B P n c : Nat} {w : World} {s : List Table} (h : OwnG Kd.tableU E B w (some ⟨P, 0, none⟩) n c s) {i : Nat} (hi : i < n) {a b d e f g : Value}
    (d0 : w.cell? ⟨P, i * 6, none⟩ = some a) (d1 : w.cell? ⟨P, i * 6 + 1, none⟩ = some b) (d2 : w.cell? ⟨P, i * 6 + 2, none⟩ = some d) (d3 : w.cell? ⟨P, i * 6 + 3, none⟩ = some e) (d4 : w.cell? ⟨P, i * 6 + 4, none⟩ = some f) (d5 : w.cell? ⟨P, i * 6 + 5, none⟩ = some g) :
    ∃ t : Table, Kd.table.rd w (Fresh B w) [a, b, d, e, f, g] t := by
  obtain ⟨t, A0, A1, A2, A3, A4, l0, k0, l1, k1, l2, l3, k3, l4, k4, _, hrd, _, _, _, c0, c1, c2, c3, c4, c5⟩ := tabU_at h hi
  obtain rfl := Option.some.inj (d0.symm.trans c0)
  obtain rfl := Option.some.inj (d1.symm.trans c1)
  obtain rfl := Option.some.inj (d2.symm.trans c2)
  obtain rfl := Option.some.inj (d3.symm.trans c3)
  obtain rfl := Option.some.inj (d4.symm.trans c4)
  obtain rfl := Option.some.inj (d5.symm.trans c5)
  exact ⟨t, Kd.table.mono hrd (fun b hb => hb.1) (fun _ _ => rfl)⟩
/-- A table is handed back. -/
def TabOne (w : World) (e : Ending) (w' : World) : Prop := ∃ (cs : List Value) (t : Table), e = .returned (.agg cs.toArray) ∧ Kd.table.rd w' (Fresh w.heap.size w') cs t ∧ Grow w w'
/-- The table in its box is stored into the result's box and handed back. -/
theorem tab_out {w V X : World} {B : Nat} {a b c d e f : Value} {t : Table} (hB : w.heap.size < B) (hrd : Kd.table.rd V (Fresh B V) [a, b, c, d, e, f] t) (hg : Grow w V) (hX : setL V w.heap.size 0 [a, b, c, d, e, f] = X) : TabOne w (.returned (.agg #[a, b, c, d, e, f])) X := by
  subst hX
  have hoth : ∀ q, B ≤ q → (setL V w.heap.size 0 [a, b, c, d, e, f]).heap[q]? = V.heap[q]? := fun q hq => setL_other V w.heap.size (by omega) 0 [a, b, c, d, e, f]
  exact ⟨_, t, rfl, Kd.table.mono hrd (fun q hq => (hq.step (Nat.le_of_eq (setL_size V w.heap.size 0 [a, b, c, d, e, f]).symm) (hoth q hq.1)).low (by omega)) (fun q hq => hoth q hq.1), setL_grow hg (Nat.le_refl _) 0 [a, b, c, d, e, f]⟩
set_option maxRecDepth 20000 in
set_option maxHeartbeats 16000000 in
theorem drawTableOk_any {A : Option Addr} {len cap : Nat} {xs : List Int} (w : World) (h : IsSl Kd.byte w (· < w.heap.size) A len cap xs) :
    Calls Try.prog 12 #[.slice A len cap] w (TabOne w) := by
  go_enter Try.func12, Try.ntmps12
  go_wp2_with fail
  generalize hW : World.alloc w _ = W0
  obtain ⟨g0, s0, b0⟩ := boxedB hW
  clear hW
  refine (l1Open_any W0 (h.grow g0)).mono ?_
  rintro e w1 ⟨g, rfl, hg, hG1, hR1⟩
  have hgl := hR1.lt
  have hw1 : W0.heap.size ≤ w1.heap.size := hG1.size
  have hwB : w.heap.size < w1.heap.size := Nat.lt_of_lt_of_le s0 hw1
  have hwg : w.heap.size ≤ g := by have := hg; omega
  have GW1 := g0.trans hG1
  go_wp2_with fail
  refine (schema_anyU g _ hR1).mono ?_
  rintro e w2 ⟨A2, n2, c2, s2, rfl, own2, h1, h3, hb, hG2, hR2⟩
  have hle2 := own2.le
  obtain ⟨P, rfl⟩ : ∃ p, A2 = some ⟨p, 0, none⟩ := own2.there (by omega)
  go_wp2_with fail
  refine (below_any g _ _ hR2 (by omega)).mono ?_
  rintro e w3 ⟨y, rfl, hy, hG3, hR3⟩
  obtain ⟨yn, rfl, y1, y0⟩ := below_nat hy (by omega)
  have hyn : yn < n2 := by omega
  have own3 := own2.growX hG3 hgl
  have G3 : GrowX g w1 w3 := hG2.trans hG3
  obtain ⟨t, A0, A1, A2, A3, A4, l0, k0, l1, k1, l2, l3, k3, l4, k4, ht, hrd, hl21, hBP, hPs, d0, d1, d2, d3, d4, d5⟩ := tabU_at own3 hyn
  have HOWN := Lib.hid own3
  have HRD := Lib.hid hrd
  have htb := hb t (List.mem_of_getElem? ht.out)
  have z0 : w.heap.size < w3.heap.size := Nat.lt_of_lt_of_le hwB G3.size
  have c0 : W0.heap.size ≤ w3.heap.size := Nat.le_trans hw1 G3.size
  have HW0 := Lib.hid ((G3.block _ hwB (by omega : w.heap.size ≠ g)).trans ((hG1.block s0).trans b0))
  clear hb own2 own3 hrd hy b0 ht
  go_wp2_with fail
  generalize hW4 : World.alloc w3 _ = w4
  obtain ⟨g4, s4, q4⟩ := boxedB hW4
  clear hW4
  have hz4 : w3.heap.size ≠ g := by have := hR3.lt; omega
  have hzw : w3.heap.size ≠ w.heap.size := by omega
  refine (below_any g 8 _ (hR3.of_grow g4) (by decide)).mono ?_
  rintro e w5 ⟨y, rfl, hy, hG5, hR5⟩
  have q5 := (hG5.block _ s4 hz4).trans q4
  have s5 : w3.heap.size < w5.heap.size := Nat.lt_of_lt_of_le s4 hG5.size
  have G35 : GrowX g w3 w5 := (GrowX.of g4).trans hG5
  have G5 : GrowX g w1 w5 := G3.trans G35
  have q0 := (G35.block _ z0 (by omega)).trans HW0.out
  have OWN5 := Lib.hid (HOWN.out.growX G35 hgl)
  have HRD5 : Hid (Kd.table.rd w5 (fun b => Led w1.heap.size w5 (some ⟨P, 0, none⟩) b ∧ b < w3.heap.size) [.string t.name, .slice A0 l0 k0, .slice A1 l1 k1, .slice A2 l2 l2, .slice A3 l3 k3, .slice A4 l4 k4] t) :=
    Lib.hid (Kd.table.mono HRD.out (fun b hb => ⟨⟨hb.1.step G35.size (G35.block b hb.1.2.1 (by have := hb.1.1; omega)), hb.2⟩, hb.1.2.1⟩) (fun b hb => G35.block b hb.1.2.1 (by have := hb.1.1; omega)))
  have PC : Hid (∀ o, w5.cell? ⟨P, o, none⟩ = w3.cell? ⟨P, o, none⟩) := Lib.hid (fun o => G35.cell hPs (by omega))
  have hcase : y = 5 ∨ y = 6 ∨ y = 7 ∨ ((y == 5) = false ∧ (y == 6) = false ∧ (y == 7) = false) := by simp only [beq_eq_false_iff_ne]; omega
  obtain ⟨p0, p1, p2, p3, p4, p5⟩ := cells_6 q5
  have pf := (free_of q5).2
  obtain ⟨u0, u1, u2, u3, u4, u5⟩ := cells_6 q0
  have uf := (free_of q0).2
  clear hy q4 s4 g4 HRD HOWN HW0 hG5 y1 y0
  rcases hcase with rfl | rfl | rfl | ⟨y5, y6, y7⟩
  · clear u0 u1 u2 u3 u4 u5 uf d0 d1 d2 d3 d4 d5
    go_wp2_with fail
    generalize hW6 : World.alloc w5 _ = w6
    obtain ⟨g6, s6, b6⟩ := boxedB hW6
    clear hW6
    refine (below_any g 3 _ (hR5.of_grow g6) (by decide)).mono ?_
    rintro e w7 ⟨y, rfl, hy, hG7, hR7⟩
    obtain ⟨j, rfl, j1, j0⟩ := below_nat hy (by decide)
    have G57 : GrowX g w5 w7 := (GrowX.of g6).trans hG7
    obtain ⟨nm, hq, hnm⟩ : ∃ nm : ByteArray, (#[.string ⟨#[]⟩, .string ⟨#[65]⟩, .string ⟨#[116, 111, 111, 108, 111, 110, 103, 101, 114]⟩] : Array Value)[j]? = some (.string nm) ∧ nm.size ≤ maxLen := by
      rcases (by omega : j = 0 ∨ j = 1 ∨ j = 2) with rfl | rfl | rfl
      · exact ⟨_, rfl, Nat.zero_le _⟩
      · exact ⟨_, rfl, by decide⟩
      · exact ⟨_, rfl, by decide⟩
    have hn7 := ((free_of ((hG7.block _ s6 (by have := hR5.lt; omega)).trans b6)).1 j).trans hq
    have q7 := (G57.block _ s5 hz4).trans q5
    have v7 : w3.heap.size < w7.heap.size := Nat.lt_of_lt_of_le s5 G57.size
    obtain ⟨m0, m1, m2, m3, m4, m5⟩ := cells_6 q7
    have mf := (free_of q7).2
    have r7 := (G57.block _ (by omega : w.heap.size < w5.heap.size) (by omega)).trans q0
    obtain ⟨x0, x1, x2, x3, x4, x5⟩ := cells_6 r7
    have xf := (free_of r7).2
    clear p0 p1 p2 p3 p4 p5 pf hq b6 q5 hy
    go_wp2_with fail
    refine bodyPost_ret (v := .agg #[.string nm, .slice A0 l0 k0, .slice A1 l1 k1, .slice A2 l2 l2, .slice A3 l3 k3, .slice A4 l4 k4]) (by simp [results, Try.results12, go_sem, x0, x1, x2, x3, x4, x5]) rfl ?_
    generalize hX : w7.setCell ⟨w3.heap.size, 0, none⟩ (.string nm) = X
    have oth : ∀ b, b ≠ w3.heap.size → X.heap[b]? = w7.heap[b]? := fun b hb => by rw [← hX]; exact Below.heap_setCell _ _ _ _ hb
    have szX : X.heap.size = w7.heap.size := by rw [← hX]; simp [World.setCell]
    have NEW : Kd.table.rd X (Fresh w1.heap.size X) [.string nm, .slice A0 l0 k0, .slice A1 l1 k1, .slice A2 l2 l2, .slice A3 l3 k3, .slice A4 l4 k4] { t with name := nm } := by
      refine rd_name (Kd.table.mono (w' := X) (S' := Fresh w1.heap.size X) HRD5.out (fun b hb => ?_) (fun b hb => ?_)) hnm
      · exact hb.1.1.step (by rw [szX]; exact G57.size) (((oth b (Nat.ne_of_lt hb.2)).trans (G57.block b hb.1.1.2.1 (by have := hb.1.1.1; omega))))
      · exact (oth b (Nat.ne_of_lt hb.2)).trans (G57.block b hb.1.1.2.1 (by have := hb.1.1.1; omega))
    have GX : Grow w X := by rw [← hX]; exact ((G5.trans G57).grow GW1 hwg).set (by show w.heap.size ≤ w3.heap.size; omega) _
    exact tab_out (B := w1.heap.size) hwB NEW GX rfl
  · have scols := rd_cols HRD5.out
    have hl0 : 0 < l0 := by have := scols.1; omega
    have hl0' : (0 : Int) < (l0 : Int) := by omega
    obtain ⟨bc, oc, cx, rfl, hcx, hSc, hbc, hcn, hcd, e0, e1, e2, e3, e4, e5, _⟩ := col_at scols hl0
    simp only [Nat.zero_mul, Nat.add_zero] at e0 e1 e2 e3 e4 e5
    have hcP : bc ≠ P := fun e => hSc.1.2 (by rw [e]; rfl)
    have hcz : bc ≠ w3.heap.size := Nat.ne_of_lt hSc.2
    have hcw : bc ≠ w.heap.size := by have := hSc.1.1.1; omega
    have hcg : bc ≠ g := by have := hSc.1.1.1; omega
    have fc := hSc.1.1.2.2
    have HC := Lib.hid (And.intro e3 (And.intro e4 e5))
    clear e0 e1 e2 scols hcx
    go_wp2_with fail
    refine wp_region_held_drew (S := fun _ => True) (by kernel_rfl) trivial (fun hHeld => ?_)
    ((refine held_take (i := 0) 29 (v := ?_) rfl rfl (by kernel_rfl) (by kernel_rfl) (by kernel_rfl) (fun _ _ _ h => h) (by kernel_rfl) ?_ (by assumption) ?_; rotate_left 1; (focus (intro w hSw; (try dsimp only at hSw); go_simp; (try with_reducible rfl); done)); all_goals (try simp only [Act.put, List.setIfInBounds_toArray, List.set_cons_zero, List.set_cons_succ])); (refine held_take (i := 2) 31 (v := ?_) rfl rfl (by kernel_rfl) (by kernel_rfl) (by kernel_rfl) (fun _ _ _ h => h) (by kernel_rfl) ?_ (by assumption) ?_; rotate_left 1; (focus (intro w hSw; (try dsimp only at hSw); go_simp; (try with_reducible rfl); done)); all_goals (try simp only [Act.put, List.setIfInBounds_toArray, List.set_cons_zero, List.set_cons_succ])))
    generalize hV : World.drew w5 = V at hHeld ⊢
    have vG : Grow w5 V := by rw [← hV]; exact (Grow.refl w5).drew
    clear hV
    have v1 := (vG.same w3.heap.size 1 s5).trans p1
    have vs := Nat.lt_of_lt_of_le s5 vG.size
    have hRV := hR5.of_grow vG
    refine wpAnyH_ready (rs := [1, 3]) (by kernel_rfl) (by simp) ?_
    refine AllReadyH.cons rfl (fun K hK => ?_) (AllReadyH.cons rfl (fun K hK => ?_) AllReadyH.nil)
    · go_simp
      refine hK.out _ _ trivial (fun hHeld => ?_)
      clear hK K
      (try refine held_put 30 rfl ?_)
      (try simp only [Act.put, List.setIfInBounds_toArray, List.set_cons_zero, List.set_cons_succ])
      refine wpAnyH_ready (rs := [3]) (by kernel_rfl) (by simp) ?_
      refine AllReadyH.cons rfl (fun K hK => ?_) AllReadyH.nil
      go_simp
      refine (val_any g _ hRV).mono ?_
      rintro e w6 ⟨v, rfl, ha, ha2, hG6, hR6⟩
      refine hK.out _ _ trivial (fun hHeld => ?_)
      clear hK K
      (try refine held_put 32 rfl ?_)
      (try simp only [Act.put, List.setIfInBounds_toArray, List.set_cons_zero, List.set_cons_succ])
      ((refine held_take (i := 4) 33 (v := ?_) rfl rfl (by kernel_rfl) (by kernel_rfl) (by kernel_rfl) (fun _ _ _ h => h) (by kernel_rfl) ?_ (by assumption) ?_; rotate_left 1; (focus (intro w hSw; (try dsimp only at hSw); go_simp; (try with_reducible rfl); done)); all_goals (try simp only [Act.put, List.setIfInBounds_toArray, List.set_cons_zero, List.set_cons_succ])); (refine held_take (i := 5) 34 (v := ?_) rfl rfl (by kernel_rfl) (by kernel_rfl) (by kernel_rfl) (fun _ _ _ h => h) (by kernel_rfl) ?_ (by assumption) ?_; rotate_left 1; (focus (intro w hSw; (try dsimp only at hSw); go_simp; (try with_reducible rfl); done)); all_goals (try simp only [Act.put, List.setIfInBounds_toArray, List.set_cons_zero, List.set_cons_succ])))
      have G56 : GrowX g w5 w6 := (GrowX.of vG).trans hG6
      have fc6 : ∀ o, w6.frozen? ⟨bc, o, none⟩ = false := fun o => by rw [frozen_of (G56.block bc hbc hcg)]; exact fc o
      have e3' := (G56.cell (o := oc + 3) hbc hcg).trans HC.out.1
      have e4' := (G56.cell (o := oc + 4) hbc hcg).trans HC.out.2.1
      have e5' := (G56.cell (o := oc + 5) hbc hcg).trans HC.out.2.2
      have hbc6 := Nat.lt_of_lt_of_le hbc G56.size
      refine wpAnyH_ready (rs := [6]) (by kernel_rfl) (by simp) ?_
      refine AllReadyH.cons rfl (fun K hK => ?_) AllReadyH.nil
      go_simp
      generalize hX : World.setCell _ _ _ = X at *
      refine hK.out _ _ trivial (fun hHeld => ?_)
      clear hK K
      (try simp only [Act.put, List.setIfInBounds_toArray, List.set_cons_zero, List.set_cons_succ])
      refine wpAnyH_done (by kernel_rfl) ?_ _
      replace hX : setL w6 bc (oc + 3) [.int .i64 v.kind, .int .i64 v.n, .string v.s] = X := hX
      obtain ⟨ys, oX⟩ := own_put3 (OWN5.out.growX G56 hgl) e3' e4' e5' v (Nat.le_trans ha2 (by decide))
      rw [hX] at oX
      have oth : ∀ b, b ≠ bc → X.heap[b]? = w6.heap[b]? := fun b hb => by rw [← hX]; exact setL_other w6 bc hb (oc + 3) _
      have szX : X.heap.size = w6.heap.size := by rw [← hX]; exact setL_size w6 bc (oc + 3) _
      have hP5 : P < w5.heap.size := Nat.lt_of_lt_of_le hPs G35.size
      have PX : ∀ o, X.cell? ⟨P, o, none⟩ = w3.cell? ⟨P, o, none⟩ := fun o => (World.cell?_of_block (a := ⟨P, o, none⟩) (oth P (Ne.symm hcP))).trans ((G56.cell hP5 (by omega)).trans (PC.out o))
      obtain ⟨t9, hrd9⟩ := tabU_same oX hyn ((PX _).trans d0) ((PX _).trans d1) ((PX _).trans d2) ((PX _).trans d3) ((PX _).trans d4) ((PX _).trans d5)
      have q7 := (oth _ (Ne.symm hcz)).trans ((G56.block _ s5 hz4).trans q5)
      have s7 : w3.heap.size < X.heap.size := by rw [szX]; exact Nat.lt_of_lt_of_le s5 G56.size
      have r7 := (oth _ (Ne.symm hcw)).trans ((G56.block _ (by omega : w.heap.size < w5.heap.size) (by omega)).trans q0)
      have r8 : w.heap.size < X.heap.size := by omega
      have GX : Grow w X := by rw [← hX]; exact setL_grow ((G5.trans G56).grow GW1 hwg) (by have := hSc.1.1.1; omega) (oc + 3) _
      obtain ⟨m0, m1, m2, m3, m4, m5⟩ := cells_6 q7
      have mf := (free_of q7).2
      obtain ⟨x0, x1, x2, x3, x4, x5⟩ := cells_6 r7
      have xf := (free_of r7).2
      clear p0 p1 p2 p3 p4 p5 pf u0 u1 u2 u3 u4 u5 uf q5 q0 hX v1 e3' e4' e5' fc6 d0 d1 d2 d3 d4 d5
      go_wp2_with fail
      refine bodyPost_ret (v := .agg #[.string t.name, .slice (some ⟨bc, oc, none⟩) l0 k0, .slice A1 l1 k1, .slice A2 l2 l2, .slice A3 l3 k3, .slice A4 l4 k4]) (by simp [results, Try.results12, go_sem, x0, x1, x2, x3, x4, x5]) rfl ?_
      exact tab_out (B := w1.heap.size) hwB hrd9 GX rfl
    · go_simp
      refine (val_any g _ hRV).mono ?_
      rintro e w6 ⟨v, rfl, ha, ha2, hG6, hR6⟩
      refine hK.out _ _ trivial (fun hHeld => ?_)
      clear hK K
      (try refine held_put 32 rfl ?_)
      (try simp only [Act.put, List.setIfInBounds_toArray, List.set_cons_zero, List.set_cons_succ])
      replace v1 := (hG6.cell (o := 1) vs hz4).trans v1
      refine wpAnyH_ready (rs := [1]) (by kernel_rfl) (by simp) ?_
      refine AllReadyH.cons rfl (fun K hK => ?_) AllReadyH.nil
      go_simp
      refine hK.out _ _ trivial (fun hHeld => ?_)
      clear hK K
      (try refine held_put 30 rfl ?_)
      (try simp only [Act.put, List.setIfInBounds_toArray, List.set_cons_zero, List.set_cons_succ])
      ((refine held_take (i := 4) 33 (v := ?_) rfl rfl (by kernel_rfl) (by kernel_rfl) (by kernel_rfl) (fun _ _ _ h => h) (by kernel_rfl) ?_ (by assumption) ?_; rotate_left 1; (focus (intro w hSw; (try dsimp only at hSw); go_simp; (try with_reducible rfl); done)); all_goals (try simp only [Act.put, List.setIfInBounds_toArray, List.set_cons_zero, List.set_cons_succ])); (refine held_take (i := 5) 34 (v := ?_) rfl rfl (by kernel_rfl) (by kernel_rfl) (by kernel_rfl) (fun _ _ _ h => h) (by kernel_rfl) ?_ (by assumption) ?_; rotate_left 1; (focus (intro w hSw; (try dsimp only at hSw); go_simp; (try with_reducible rfl); done)); all_goals (try simp only [Act.put, List.setIfInBounds_toArray, List.set_cons_zero, List.set_cons_succ])))
      have G56 : GrowX g w5 w6 := (GrowX.of vG).trans hG6
      have fc6 : ∀ o, w6.frozen? ⟨bc, o, none⟩ = false := fun o => by rw [frozen_of (G56.block bc hbc hcg)]; exact fc o
      have e3' := (G56.cell (o := oc + 3) hbc hcg).trans HC.out.1
      have e4' := (G56.cell (o := oc + 4) hbc hcg).trans HC.out.2.1
      have e5' := (G56.cell (o := oc + 5) hbc hcg).trans HC.out.2.2
      have hbc6 := Nat.lt_of_lt_of_le hbc G56.size
      refine wpAnyH_ready (rs := [6]) (by kernel_rfl) (by simp) ?_
      refine AllReadyH.cons rfl (fun K hK => ?_) AllReadyH.nil
      go_simp
      generalize hX : World.setCell _ _ _ = X at *
      refine hK.out _ _ trivial (fun hHeld => ?_)
      clear hK K
      (try simp only [Act.put, List.setIfInBounds_toArray, List.set_cons_zero, List.set_cons_succ])
      refine wpAnyH_done (by kernel_rfl) ?_ _
      replace hX : setL w6 bc (oc + 3) [.int .i64 v.kind, .int .i64 v.n, .string v.s] = X := hX
      obtain ⟨ys, oX⟩ := own_put3 (OWN5.out.growX G56 hgl) e3' e4' e5' v (Nat.le_trans ha2 (by decide))
      rw [hX] at oX
      have oth : ∀ b, b ≠ bc → X.heap[b]? = w6.heap[b]? := fun b hb => by rw [← hX]; exact setL_other w6 bc hb (oc + 3) _
      have szX : X.heap.size = w6.heap.size := by rw [← hX]; exact setL_size w6 bc (oc + 3) _
      have hP5 : P < w5.heap.size := Nat.lt_of_lt_of_le hPs G35.size
      have PX : ∀ o, X.cell? ⟨P, o, none⟩ = w3.cell? ⟨P, o, none⟩ := fun o => (World.cell?_of_block (a := ⟨P, o, none⟩) (oth P (Ne.symm hcP))).trans ((G56.cell hP5 (by omega)).trans (PC.out o))
      obtain ⟨t9, hrd9⟩ := tabU_same oX hyn ((PX _).trans d0) ((PX _).trans d1) ((PX _).trans d2) ((PX _).trans d3) ((PX _).trans d4) ((PX _).trans d5)
      have q7 := (oth _ (Ne.symm hcz)).trans ((G56.block _ s5 hz4).trans q5)
      have s7 : w3.heap.size < X.heap.size := by rw [szX]; exact Nat.lt_of_lt_of_le s5 G56.size
      have r7 := (oth _ (Ne.symm hcw)).trans ((G56.block _ (by omega : w.heap.size < w5.heap.size) (by omega)).trans q0)
      have r8 : w.heap.size < X.heap.size := by omega
      have GX : Grow w X := by rw [← hX]; exact setL_grow ((G5.trans G56).grow GW1 hwg) (by have := hSc.1.1.1; omega) (oc + 3) _
      obtain ⟨m0, m1, m2, m3, m4, m5⟩ := cells_6 q7
      have mf := (free_of q7).2
      obtain ⟨x0, x1, x2, x3, x4, x5⟩ := cells_6 r7
      have xf := (free_of r7).2
      clear p0 p1 p2 p3 p4 p5 pf u0 u1 u2 u3 u4 u5 uf q5 q0 hX v1 e3' e4' e5' fc6 d0 d1 d2 d3 d4 d5
      go_wp2_with fail
      refine bodyPost_ret (v := .agg #[.string t.name, .slice (some ⟨bc, oc, none⟩) l0 k0, .slice A1 l1 k1, .slice A2 l2 l2, .slice A3 l3 k3, .slice A4 l4 k4]) (by simp [results, Try.results12, go_sem, x0, x1, x2, x3, x4, x5]) rfl ?_
      exact tab_out (B := w1.heap.size) hwB hrd9 GX rfl
  · clear d0 d1 d2 d3 d4 d5
    go_wp2_with fail
    refine wp_region_held_drew (S := fun _ => True) (by kernel_rfl) trivial (fun hHeld => ?_)
    ((refine held_take (i := 0) 37 (v := ?_) rfl rfl (by kernel_rfl) (by kernel_rfl) (by kernel_rfl) (fun _ _ _ h => h) (by kernel_rfl) ?_ (by assumption) ?_; rotate_left 1; (focus (intro w hSw; (try dsimp only at hSw); go_simp; (try with_reducible rfl); done)); all_goals (try simp only [Act.put, List.setIfInBounds_toArray, List.set_cons_zero, List.set_cons_succ])); (refine held_take (i := 2) 39 (v := ?_) rfl rfl (by kernel_rfl) (by kernel_rfl) (by kernel_rfl) (fun _ _ _ h => h) (by kernel_rfl) ?_ (by assumption) ?_; rotate_left 1; (focus (intro w hSw; (try dsimp only at hSw); go_simp; (try with_reducible rfl); done)); all_goals (try simp only [Act.put, List.setIfInBounds_toArray, List.set_cons_zero, List.set_cons_succ])))
    generalize hV : World.drew w5 = V at hHeld ⊢
    have vG : Grow w5 V := by rw [← hV]; exact (Grow.refl w5).drew
    clear hV
    have v3 := (vG.same w3.heap.size 3 s5).trans p3
    have vs := Nat.lt_of_lt_of_le s5 vG.size
    have hRV := hR5.of_grow vG
    have hVs : w1.heap.size ≤ V.heap.size := Nat.le_trans G5.size vG.size
    have suq := rd_uq HRD5.out
    have HSU : Hid (IsSl Kd.unique V (fun b => Fresh w1.heap.size V b ∧ b ≠ w3.heap.size) A2 l2 l2 t.uniques) := Lib.hid (suq.mono (fun b hb => ⟨hb.1.1.grow vG, Nat.ne_of_lt hb.2⟩) (fun b hb => vG.block hb.1.1.2.1))
    clear suq
    refine wpAnyH_ready (rs := [1, 3]) (by kernel_rfl) (by simp) ?_
    refine AllReadyH.cons rfl (fun K hK => ?_) (AllReadyH.cons rfl (fun K hK => ?_) AllReadyH.nil)
    · go_simp
      refine hK.out _ _ trivial (fun hHeld => ?_)
      clear hK K
      (try refine held_put 38 rfl ?_)
      (try simp only [Act.put, List.setIfInBounds_toArray, List.set_cons_zero, List.set_cons_succ])
      refine wpAnyH_ready (rs := [3]) (by kernel_rfl) (by simp) ?_
      refine AllReadyH.cons rfl (fun K hK => ?_) AllReadyH.nil
      go_simp
      refine (off_any g 0 3 _ hRV (by decide) (by decide)).mono ?_
      rintro e w6 ⟨j, rfl, -, hG6, hR6⟩
      refine hK.out _ _ trivial (fun hHeld => ?_)
      clear hK K
      (try refine held_put 40 rfl ?_)
      (try simp only [Act.put, List.setIfInBounds_toArray, List.set_cons_zero, List.set_cons_succ])
      have G56 : GrowX g w5 w6 := (GrowX.of vG).trans hG6
      have s6 : w3.heap.size < w6.heap.size := Nat.lt_of_lt_of_le s5 G56.size
      refine wpAnyH_ready (rs := [4]) (by kernel_rfl) (by simp) ?_
      refine AllReadyH.cons rfl (fun K hK => ?_) AllReadyH.nil
      go_simp
      refine hK.out _ _ trivial (fun hHeld => ?_)
      clear hK K
      (try refine held_put 41 rfl ?_)
      (try simp only [Act.put, List.setIfInBounds_toArray, List.set_cons_zero, List.set_cons_succ])
      ((refine held_take (i := 5) 42 (v := ?_) rfl rfl (by kernel_rfl) (by kernel_rfl) (by kernel_rfl) (fun _ _ _ h => h) (by kernel_rfl) ?_ (by assumption) ?_; rotate_left 1; (focus (intro w hSw; (try dsimp only at hSw); go_simp; (try with_reducible rfl); done)); all_goals (try simp only [Act.put, List.setIfInBounds_toArray, List.set_cons_zero, List.set_cons_succ])))
      generalize hW7 : World.alloc w6 _ = w7 at hHeld ⊢
      obtain ⟨g7, t7, b7⟩ := boxedB hW7
      clear hW7
      have s7 : w3.heap.size < w7.heap.size := Nat.lt_of_lt_of_le s6 g7.size
      refine wpAnyH_ready (rs := [6]) (by kernel_rfl) (by simp) ?_
      refine AllReadyH.cons rfl (fun K hK => ?_) AllReadyH.nil
      go_simp
      refine hK.out _ _ trivial (fun hHeld => ?_)
      clear hK K
      (try refine held_put 43 rfl ?_)
      (try simp only [Act.put, List.setIfInBounds_toArray, List.set_cons_zero, List.set_cons_succ])
      generalize hW8 : World.alloc w7 _ = w8 at hHeld ⊢
      obtain ⟨g8, t8, b8⟩ := boxedB hW8
      clear hW8
      have s8 : w3.heap.size < w8.heap.size := Nat.lt_of_lt_of_le s7 g8.size
      have G58 : GrowX g w5 w8 := G56.trans (GrowX.of (g7.trans g8))
      have h16 : w1.heap.size ≤ w6.heap.size := Nat.le_trans hVs hG6.size
      have h18 : w1.heap.size ≤ w8.heap.size := Nat.le_trans h16 (Nat.le_trans g7.size g8.size)
      have b78 := (g8.block t7).trans b7
      have SU8 : IsSl Kd.unique w8 (fun b => Fresh w1.heap.size w8 b ∧ b ≠ w3.heap.size) A2 l2 l2 t.uniques := HSU.out.mono (fun b hb => ⟨(hb.1.step hG6.size (hG6.block b hb.1.2.1 (by have := hb.1.1; omega))).grow (g7.trans g8), hb.2⟩) (fun b hb => ((g7.trans g8).block (Nat.lt_of_lt_of_le hb.1.2.1 hG6.size)).trans (hG6.block b hb.1.2.1 (by have := hb.1.1; omega)))
      have SRC : IsSl Kd.unique w8 (fun b => Fresh w1.heap.size w8 b ∧ b ≠ w3.heap.size) (some ⟨w7.heap.size, 0, none⟩) 1 1 [⟨[j]⟩] := unique1 b8 ⟨⟨Nat.le_trans h16 g7.size, t8, (free_of b8).2⟩, by omega⟩ (int1 b78 ⟨⟨h16, Nat.lt_of_lt_of_le t7 g8.size, (free_of b78).2⟩, by omega⟩)
      refine wpAnyH_ready (rs := [7]) (by kernel_rfl) (by simp) ?_
      refine AllReadyH.cons rfl (fun K hK => ?_) AllReadyH.nil
      refine step_appN ones_uniqueJ elem_uniqueJ (by rfl) (.tmp 38) (.tmp 43) (by rfl) (by rfl) SU8 (fun b hb => hb.1.2.1) (by rfl) SRC (by decide) (q := l2 + 1) rfl (by unfold maxLen; omega) (by omega) (fun A9 c9 w9 sl9 g9 => ?_)
      refine hK.out _ _ trivial (fun hHeld => ?_)
      clear hK K
      (try refine held_put 44 rfl ?_)
      (try simp only [Act.put, List.setIfInBounds_toArray, List.set_cons_zero, List.set_cons_succ])
      have G59 : GrowX g w5 w9 := G58.trans (GrowX.of g9)
      have q9 := (G59.block _ s5 hz4).trans q5
      have s9 : w3.heap.size < w9.heap.size := Nat.lt_of_lt_of_le s5 G59.size
      obtain ⟨n0, n1, n2', n3, n4, n5⟩ := cells_6 q9
      have nf := (free_of q9).2
      clear p0 p1 p2 p3 p4 p5 pf
      ((refine held_take (i := 8) 45 (v := ?_) rfl rfl (by kernel_rfl) (by kernel_rfl) (by kernel_rfl) (fun _ _ _ h => h) (by kernel_rfl) ?_ (by assumption) ?_; rotate_left 1; (focus (intro w hSw; (try dsimp only at hSw); go_simp; (try with_reducible rfl); done)); all_goals (try simp only [Act.put, List.setIfInBounds_toArray, List.set_cons_zero, List.set_cons_succ])))
      refine wpAnyH_ready (rs := [9]) (by kernel_rfl) (by simp) ?_
      refine AllReadyH.cons rfl (fun K hK => ?_) AllReadyH.nil
      go_simp
      generalize hX : World.setCell _ _ _ = X at *
      refine hK.out _ _ trivial (fun hHeld => ?_)
      clear hK K
      (try simp only [Act.put, List.setIfInBounds_toArray, List.set_cons_zero, List.set_cons_succ])
      refine wpAnyH_done (by kernel_rfl) ?_ _
      have oth : ∀ b, b ≠ w3.heap.size → X.heap[b]? = w9.heap[b]? := fun b hb => by rw [← hX]; exact Below.heap_setCell _ _ _ _ hb
      have szX : X.heap.size = w9.heap.size := by rw [← hX]; simp [World.setCell]
      have own := put_own q9 3 (.slice A9 (l2 + 1) c9)
      rw [hX] at own
      have q7 : X.heap[w3.heap.size]? = some (.cells #[.string t.name, .slice A0 l0 k0, .slice A1 l1 k1, .slice A9 (l2 + 1) c9, .slice A3 l3 k3, .slice A4 l4 k4] 34 (0, 0)) := own
      have s7 : w3.heap.size < X.heap.size := by rw [szX]; exact s9
      have r7 := (oth w.heap.size (by omega)).trans ((G59.block _ (by omega : w.heap.size < w5.heap.size) (by omega)).trans q0)
      have r8 : w.heap.size < X.heap.size := by omega
      have GX : Grow w X := by rw [← hX]; exact ((G5.trans G59).grow GW1 hwg).set (by show w.heap.size ≤ w3.heap.size; omega) _
      have RD9 : Kd.table.rd w9 (fun b => Fresh w1.heap.size w9 b ∧ b ≠ w3.heap.size) [.string t.name, .slice A0 l0 k0, .slice A1 l1 k1, .slice A2 l2 l2, .slice A3 l3 k3, .slice A4 l4 k4] t := Kd.table.mono HRD5.out (fun b hb => ⟨hb.1.1.step G59.size (G59.block b hb.1.1.2.1 (by have := hb.1.1.1; omega)), Nat.ne_of_lt hb.2⟩) (fun b hb => G59.block b hb.1.1.2.1 (by have := hb.1.1.1; omega))
      have NEW : Kd.table.rd X (Fresh w1.heap.size X) [.string t.name, .slice A0 l0 k0, .slice A1 l1 k1, .slice A9 (l2 + 1) c9, .slice A3 l3 k3, .slice A4 l4 k4] { t with uniques := t.uniques ++ [⟨[j]⟩] } :=
        Kd.table.mono (w := w9) (S := fun b => Fresh w1.heap.size w9 b ∧ b ≠ w3.heap.size) (rd_uniques RD9 (sl9.mono (fun b hb => by rcases hb with ⟨hb, hz⟩ | ⟨h1, h2, h3⟩; exact ⟨hb.grow g9, hz⟩; exact ⟨⟨Nat.le_trans h18 h1, h2, h3⟩, by omega⟩) (fun _ _ => rfl))) (fun b hb => hb.1.step (by rw [szX]; exact Nat.le_refl _) (oth b hb.2)) (fun b hb => oth b hb.2)
      obtain ⟨m0, m1, m2, m3, m4, m5⟩ := cells_6 q7
      have mf := (free_of q7).2
      obtain ⟨x0, x1, x2, x3, x4, x5⟩ := cells_6 r7
      have xf := (free_of r7).2
      clear n0 n1 n2' n3 n4 n5 nf u0 u1 u2 u3 u4 u5 uf q5 q0 hX v3 own
      go_wp2_with fail
      refine bodyPost_ret (v := .agg #[.string t.name, .slice A0 l0 k0, .slice A1 l1 k1, .slice A9 (l2 + 1) c9, .slice A3 l3 k3, .slice A4 l4 k4]) (by simp [results, Try.results12, go_sem, x0, x1, x2, x3, x4, x5]) rfl ?_
      exact tab_out (B := w1.heap.size) hwB NEW GX rfl
    · go_simp
      refine (off_any g 0 3 _ hRV (by decide) (by decide)).mono ?_
      rintro e w6 ⟨j, rfl, -, hG6, hR6⟩
      refine hK.out _ _ trivial (fun hHeld => ?_)
      clear hK K
      (try refine held_put 40 rfl ?_)
      (try simp only [Act.put, List.setIfInBounds_toArray, List.set_cons_zero, List.set_cons_succ])
      have G56 : GrowX g w5 w6 := (GrowX.of vG).trans hG6
      replace v3 := (hG6.cell (o := 3) vs hz4).trans v3
      have s6 : w3.heap.size < w6.heap.size := Nat.lt_of_lt_of_le s5 G56.size
      refine wpAnyH_ready (rs := [1, 4]) (by kernel_rfl) (by simp) ?_
      refine AllReadyH.cons rfl (fun K hK => ?_) (AllReadyH.cons rfl (fun K hK => ?_) AllReadyH.nil)
      · go_simp
        refine hK.out _ _ trivial (fun hHeld => ?_)
        clear hK K
        (try refine held_put 38 rfl ?_)
        (try simp only [Act.put, List.setIfInBounds_toArray, List.set_cons_zero, List.set_cons_succ])
        refine wpAnyH_ready (rs := [4]) (by kernel_rfl) (by simp) ?_
        refine AllReadyH.cons rfl (fun K hK => ?_) AllReadyH.nil
        go_simp
        refine hK.out _ _ trivial (fun hHeld => ?_)
        clear hK K
        (try refine held_put 41 rfl ?_)
        (try simp only [Act.put, List.setIfInBounds_toArray, List.set_cons_zero, List.set_cons_succ])
        ((refine held_take (i := 5) 42 (v := ?_) rfl rfl (by kernel_rfl) (by kernel_rfl) (by kernel_rfl) (fun _ _ _ h => h) (by kernel_rfl) ?_ (by assumption) ?_; rotate_left 1; (focus (intro w hSw; (try dsimp only at hSw); go_simp; (try with_reducible rfl); done)); all_goals (try simp only [Act.put, List.setIfInBounds_toArray, List.set_cons_zero, List.set_cons_succ])))
        generalize hW7 : World.alloc w6 _ = w7 at hHeld ⊢
        obtain ⟨g7, t7, b7⟩ := boxedB hW7
        clear hW7
        have s7 : w3.heap.size < w7.heap.size := Nat.lt_of_lt_of_le s6 g7.size
        refine wpAnyH_ready (rs := [6]) (by kernel_rfl) (by simp) ?_
        refine AllReadyH.cons rfl (fun K hK => ?_) AllReadyH.nil
        go_simp
        refine hK.out _ _ trivial (fun hHeld => ?_)
        clear hK K
        (try refine held_put 43 rfl ?_)
        (try simp only [Act.put, List.setIfInBounds_toArray, List.set_cons_zero, List.set_cons_succ])
        generalize hW8 : World.alloc w7 _ = w8 at hHeld ⊢
        obtain ⟨g8, t8, b8⟩ := boxedB hW8
        clear hW8
        have s8 : w3.heap.size < w8.heap.size := Nat.lt_of_lt_of_le s7 g8.size
        have G58 : GrowX g w5 w8 := G56.trans (GrowX.of (g7.trans g8))
        have h16 : w1.heap.size ≤ w6.heap.size := Nat.le_trans hVs hG6.size
        have h18 : w1.heap.size ≤ w8.heap.size := Nat.le_trans h16 (Nat.le_trans g7.size g8.size)
        have b78 := (g8.block t7).trans b7
        have SU8 : IsSl Kd.unique w8 (fun b => Fresh w1.heap.size w8 b ∧ b ≠ w3.heap.size) A2 l2 l2 t.uniques := HSU.out.mono (fun b hb => ⟨(hb.1.step hG6.size (hG6.block b hb.1.2.1 (by have := hb.1.1; omega))).grow (g7.trans g8), hb.2⟩) (fun b hb => ((g7.trans g8).block (Nat.lt_of_lt_of_le hb.1.2.1 hG6.size)).trans (hG6.block b hb.1.2.1 (by have := hb.1.1; omega)))
        have SRC : IsSl Kd.unique w8 (fun b => Fresh w1.heap.size w8 b ∧ b ≠ w3.heap.size) (some ⟨w7.heap.size, 0, none⟩) 1 1 [⟨[j]⟩] := unique1 b8 ⟨⟨Nat.le_trans h16 g7.size, t8, (free_of b8).2⟩, by omega⟩ (int1 b78 ⟨⟨h16, Nat.lt_of_lt_of_le t7 g8.size, (free_of b78).2⟩, by omega⟩)
        refine wpAnyH_ready (rs := [7]) (by kernel_rfl) (by simp) ?_
        refine AllReadyH.cons rfl (fun K hK => ?_) AllReadyH.nil
        refine step_appN ones_uniqueJ elem_uniqueJ (by rfl) (.tmp 38) (.tmp 43) (by rfl) (by rfl) SU8 (fun b hb => hb.1.2.1) (by rfl) SRC (by decide) (q := l2 + 1) rfl (by unfold maxLen; omega) (by omega) (fun A9 c9 w9 sl9 g9 => ?_)
        refine hK.out _ _ trivial (fun hHeld => ?_)
        clear hK K
        (try refine held_put 44 rfl ?_)
        (try simp only [Act.put, List.setIfInBounds_toArray, List.set_cons_zero, List.set_cons_succ])
        have G59 : GrowX g w5 w9 := G58.trans (GrowX.of g9)
        have q9 := (G59.block _ s5 hz4).trans q5
        have s9 : w3.heap.size < w9.heap.size := Nat.lt_of_lt_of_le s5 G59.size
        obtain ⟨n0, n1, n2', n3, n4, n5⟩ := cells_6 q9
        have nf := (free_of q9).2
        clear p0 p1 p2 p3 p4 p5 pf
        ((refine held_take (i := 8) 45 (v := ?_) rfl rfl (by kernel_rfl) (by kernel_rfl) (by kernel_rfl) (fun _ _ _ h => h) (by kernel_rfl) ?_ (by assumption) ?_; rotate_left 1; (focus (intro w hSw; (try dsimp only at hSw); go_simp; (try with_reducible rfl); done)); all_goals (try simp only [Act.put, List.setIfInBounds_toArray, List.set_cons_zero, List.set_cons_succ])))
        refine wpAnyH_ready (rs := [9]) (by kernel_rfl) (by simp) ?_
        refine AllReadyH.cons rfl (fun K hK => ?_) AllReadyH.nil
        go_simp
        generalize hX : World.setCell _ _ _ = X at *
        refine hK.out _ _ trivial (fun hHeld => ?_)
        clear hK K
        (try simp only [Act.put, List.setIfInBounds_toArray, List.set_cons_zero, List.set_cons_succ])
        refine wpAnyH_done (by kernel_rfl) ?_ _
        have oth : ∀ b, b ≠ w3.heap.size → X.heap[b]? = w9.heap[b]? := fun b hb => by rw [← hX]; exact Below.heap_setCell _ _ _ _ hb
        have szX : X.heap.size = w9.heap.size := by rw [← hX]; simp [World.setCell]
        have own := put_own q9 3 (.slice A9 (l2 + 1) c9)
        rw [hX] at own
        have q7 : X.heap[w3.heap.size]? = some (.cells #[.string t.name, .slice A0 l0 k0, .slice A1 l1 k1, .slice A9 (l2 + 1) c9, .slice A3 l3 k3, .slice A4 l4 k4] 34 (0, 0)) := own
        have s7 : w3.heap.size < X.heap.size := by rw [szX]; exact s9
        have r7 := (oth w.heap.size (by omega)).trans ((G59.block _ (by omega : w.heap.size < w5.heap.size) (by omega)).trans q0)
        have r8 : w.heap.size < X.heap.size := by omega
        have GX : Grow w X := by rw [← hX]; exact ((G5.trans G59).grow GW1 hwg).set (by show w.heap.size ≤ w3.heap.size; omega) _
        have RD9 : Kd.table.rd w9 (fun b => Fresh w1.heap.size w9 b ∧ b ≠ w3.heap.size) [.string t.name, .slice A0 l0 k0, .slice A1 l1 k1, .slice A2 l2 l2, .slice A3 l3 k3, .slice A4 l4 k4] t := Kd.table.mono HRD5.out (fun b hb => ⟨hb.1.1.step G59.size (G59.block b hb.1.1.2.1 (by have := hb.1.1.1; omega)), Nat.ne_of_lt hb.2⟩) (fun b hb => G59.block b hb.1.1.2.1 (by have := hb.1.1.1; omega))
        have NEW : Kd.table.rd X (Fresh w1.heap.size X) [.string t.name, .slice A0 l0 k0, .slice A1 l1 k1, .slice A9 (l2 + 1) c9, .slice A3 l3 k3, .slice A4 l4 k4] { t with uniques := t.uniques ++ [⟨[j]⟩] } :=
          Kd.table.mono (w := w9) (S := fun b => Fresh w1.heap.size w9 b ∧ b ≠ w3.heap.size) (rd_uniques RD9 (sl9.mono (fun b hb => by rcases hb with ⟨hb, hz⟩ | ⟨h1, h2, h3⟩; exact ⟨hb.grow g9, hz⟩; exact ⟨⟨Nat.le_trans h18 h1, h2, h3⟩, by omega⟩) (fun _ _ => rfl))) (fun b hb => hb.1.step (by rw [szX]; exact Nat.le_refl _) (oth b hb.2)) (fun b hb => oth b hb.2)
        obtain ⟨m0, m1, m2, m3, m4, m5⟩ := cells_6 q7
        have mf := (free_of q7).2
        obtain ⟨x0, x1, x2, x3, x4, x5⟩ := cells_6 r7
        have xf := (free_of r7).2
        clear n0 n1 n2' n3 n4 n5 nf u0 u1 u2 u3 u4 u5 uf q5 q0 hX v3 own
        go_wp2_with fail
        refine bodyPost_ret (v := .agg #[.string t.name, .slice A0 l0 k0, .slice A1 l1 k1, .slice A9 (l2 + 1) c9, .slice A3 l3 k3, .slice A4 l4 k4]) (by simp [results, Try.results12, go_sem, x0, x1, x2, x3, x4, x5]) rfl ?_
        exact tab_out (B := w1.heap.size) hwB NEW GX rfl
      · go_simp
        refine hK.out _ _ trivial (fun hHeld => ?_)
        clear hK K
        (try refine held_put 41 rfl ?_)
        (try simp only [Act.put, List.setIfInBounds_toArray, List.set_cons_zero, List.set_cons_succ])
        ((refine held_take (i := 5) 42 (v := ?_) rfl rfl (by kernel_rfl) (by kernel_rfl) (by kernel_rfl) (fun _ _ _ h => h) (by kernel_rfl) ?_ (by assumption) ?_; rotate_left 1; (focus (intro w hSw; (try dsimp only at hSw); go_simp; (try with_reducible rfl); done)); all_goals (try simp only [Act.put, List.setIfInBounds_toArray, List.set_cons_zero, List.set_cons_succ])))
        generalize hW7 : World.alloc w6 _ = w7 at hHeld ⊢
        obtain ⟨g7, t7, b7⟩ := boxedB hW7
        clear hW7
        replace v3 := (g7.same w3.heap.size 3 s6).trans v3
        have s7 : w3.heap.size < w7.heap.size := Nat.lt_of_lt_of_le s6 g7.size
        refine wpAnyH_ready (rs := [1, 6]) (by kernel_rfl) (by simp) ?_
        refine AllReadyH.cons rfl (fun K hK => ?_) (AllReadyH.cons rfl (fun K hK => ?_) AllReadyH.nil)
        · go_simp
          refine hK.out _ _ trivial (fun hHeld => ?_)
          clear hK K
          (try refine held_put 38 rfl ?_)
          (try simp only [Act.put, List.setIfInBounds_toArray, List.set_cons_zero, List.set_cons_succ])
          refine wpAnyH_ready (rs := [6]) (by kernel_rfl) (by simp) ?_
          refine AllReadyH.cons rfl (fun K hK => ?_) AllReadyH.nil
          go_simp
          refine hK.out _ _ trivial (fun hHeld => ?_)
          clear hK K
          (try refine held_put 43 rfl ?_)
          (try simp only [Act.put, List.setIfInBounds_toArray, List.set_cons_zero, List.set_cons_succ])
          generalize hW8 : World.alloc w7 _ = w8 at hHeld ⊢
          obtain ⟨g8, t8, b8⟩ := boxedB hW8
          clear hW8
          have s8 : w3.heap.size < w8.heap.size := Nat.lt_of_lt_of_le s7 g8.size
          have G58 : GrowX g w5 w8 := G56.trans (GrowX.of (g7.trans g8))
          have h16 : w1.heap.size ≤ w6.heap.size := Nat.le_trans hVs hG6.size
          have h18 : w1.heap.size ≤ w8.heap.size := Nat.le_trans h16 (Nat.le_trans g7.size g8.size)
          have b78 := (g8.block t7).trans b7
          have SU8 : IsSl Kd.unique w8 (fun b => Fresh w1.heap.size w8 b ∧ b ≠ w3.heap.size) A2 l2 l2 t.uniques := HSU.out.mono (fun b hb => ⟨(hb.1.step hG6.size (hG6.block b hb.1.2.1 (by have := hb.1.1; omega))).grow (g7.trans g8), hb.2⟩) (fun b hb => ((g7.trans g8).block (Nat.lt_of_lt_of_le hb.1.2.1 hG6.size)).trans (hG6.block b hb.1.2.1 (by have := hb.1.1; omega)))
          have SRC : IsSl Kd.unique w8 (fun b => Fresh w1.heap.size w8 b ∧ b ≠ w3.heap.size) (some ⟨w7.heap.size, 0, none⟩) 1 1 [⟨[j]⟩] := unique1 b8 ⟨⟨Nat.le_trans h16 g7.size, t8, (free_of b8).2⟩, by omega⟩ (int1 b78 ⟨⟨h16, Nat.lt_of_lt_of_le t7 g8.size, (free_of b78).2⟩, by omega⟩)
          refine wpAnyH_ready (rs := [7]) (by kernel_rfl) (by simp) ?_
          refine AllReadyH.cons rfl (fun K hK => ?_) AllReadyH.nil
          refine step_appN ones_uniqueJ elem_uniqueJ (by rfl) (.tmp 38) (.tmp 43) (by rfl) (by rfl) SU8 (fun b hb => hb.1.2.1) (by rfl) SRC (by decide) (q := l2 + 1) rfl (by unfold maxLen; omega) (by omega) (fun A9 c9 w9 sl9 g9 => ?_)
          refine hK.out _ _ trivial (fun hHeld => ?_)
          clear hK K
          (try refine held_put 44 rfl ?_)
          (try simp only [Act.put, List.setIfInBounds_toArray, List.set_cons_zero, List.set_cons_succ])
          have G59 : GrowX g w5 w9 := G58.trans (GrowX.of g9)
          have q9 := (G59.block _ s5 hz4).trans q5
          have s9 : w3.heap.size < w9.heap.size := Nat.lt_of_lt_of_le s5 G59.size
          obtain ⟨n0, n1, n2', n3, n4, n5⟩ := cells_6 q9
          have nf := (free_of q9).2
          clear p0 p1 p2 p3 p4 p5 pf
          ((refine held_take (i := 8) 45 (v := ?_) rfl rfl (by kernel_rfl) (by kernel_rfl) (by kernel_rfl) (fun _ _ _ h => h) (by kernel_rfl) ?_ (by assumption) ?_; rotate_left 1; (focus (intro w hSw; (try dsimp only at hSw); go_simp; (try with_reducible rfl); done)); all_goals (try simp only [Act.put, List.setIfInBounds_toArray, List.set_cons_zero, List.set_cons_succ])))
          refine wpAnyH_ready (rs := [9]) (by kernel_rfl) (by simp) ?_
          refine AllReadyH.cons rfl (fun K hK => ?_) AllReadyH.nil
          go_simp
          generalize hX : World.setCell _ _ _ = X at *
          refine hK.out _ _ trivial (fun hHeld => ?_)
          clear hK K
          (try simp only [Act.put, List.setIfInBounds_toArray, List.set_cons_zero, List.set_cons_succ])
          refine wpAnyH_done (by kernel_rfl) ?_ _
          have oth : ∀ b, b ≠ w3.heap.size → X.heap[b]? = w9.heap[b]? := fun b hb => by rw [← hX]; exact Below.heap_setCell _ _ _ _ hb
          have szX : X.heap.size = w9.heap.size := by rw [← hX]; simp [World.setCell]
          have own := put_own q9 3 (.slice A9 (l2 + 1) c9)
          rw [hX] at own
          have q7 : X.heap[w3.heap.size]? = some (.cells #[.string t.name, .slice A0 l0 k0, .slice A1 l1 k1, .slice A9 (l2 + 1) c9, .slice A3 l3 k3, .slice A4 l4 k4] 34 (0, 0)) := own
          have s7 : w3.heap.size < X.heap.size := by rw [szX]; exact s9
          have r7 := (oth w.heap.size (by omega)).trans ((G59.block _ (by omega : w.heap.size < w5.heap.size) (by omega)).trans q0)
          have r8 : w.heap.size < X.heap.size := by omega
          have GX : Grow w X := by rw [← hX]; exact ((G5.trans G59).grow GW1 hwg).set (by show w.heap.size ≤ w3.heap.size; omega) _
          have RD9 : Kd.table.rd w9 (fun b => Fresh w1.heap.size w9 b ∧ b ≠ w3.heap.size) [.string t.name, .slice A0 l0 k0, .slice A1 l1 k1, .slice A2 l2 l2, .slice A3 l3 k3, .slice A4 l4 k4] t := Kd.table.mono HRD5.out (fun b hb => ⟨hb.1.1.step G59.size (G59.block b hb.1.1.2.1 (by have := hb.1.1.1; omega)), Nat.ne_of_lt hb.2⟩) (fun b hb => G59.block b hb.1.1.2.1 (by have := hb.1.1.1; omega))
          have NEW : Kd.table.rd X (Fresh w1.heap.size X) [.string t.name, .slice A0 l0 k0, .slice A1 l1 k1, .slice A9 (l2 + 1) c9, .slice A3 l3 k3, .slice A4 l4 k4] { t with uniques := t.uniques ++ [⟨[j]⟩] } :=
            Kd.table.mono (w := w9) (S := fun b => Fresh w1.heap.size w9 b ∧ b ≠ w3.heap.size) (rd_uniques RD9 (sl9.mono (fun b hb => by rcases hb with ⟨hb, hz⟩ | ⟨h1, h2, h3⟩; exact ⟨hb.grow g9, hz⟩; exact ⟨⟨Nat.le_trans h18 h1, h2, h3⟩, by omega⟩) (fun _ _ => rfl))) (fun b hb => hb.1.step (by rw [szX]; exact Nat.le_refl _) (oth b hb.2)) (fun b hb => oth b hb.2)
          obtain ⟨m0, m1, m2, m3, m4, m5⟩ := cells_6 q7
          have mf := (free_of q7).2
          obtain ⟨x0, x1, x2, x3, x4, x5⟩ := cells_6 r7
          have xf := (free_of r7).2
          clear n0 n1 n2' n3 n4 n5 nf u0 u1 u2 u3 u4 u5 uf q5 q0 hX v3 own
          go_wp2_with fail
          refine bodyPost_ret (v := .agg #[.string t.name, .slice A0 l0 k0, .slice A1 l1 k1, .slice A9 (l2 + 1) c9, .slice A3 l3 k3, .slice A4 l4 k4]) (by simp [results, Try.results12, go_sem, x0, x1, x2, x3, x4, x5]) rfl ?_
          exact tab_out (B := w1.heap.size) hwB NEW GX rfl
        · go_simp
          refine hK.out _ _ trivial (fun hHeld => ?_)
          clear hK K
          (try refine held_put 43 rfl ?_)
          (try simp only [Act.put, List.setIfInBounds_toArray, List.set_cons_zero, List.set_cons_succ])
          generalize hW8 : World.alloc w7 _ = w8 at hHeld ⊢
          obtain ⟨g8, t8, b8⟩ := boxedB hW8
          clear hW8
          replace v3 := (g8.same w3.heap.size 3 s7).trans v3
          have s8 : w3.heap.size < w8.heap.size := Nat.lt_of_lt_of_le s7 g8.size
          have G58 : GrowX g w5 w8 := G56.trans (GrowX.of (g7.trans g8))
          have h16 : w1.heap.size ≤ w6.heap.size := Nat.le_trans hVs hG6.size
          have h18 : w1.heap.size ≤ w8.heap.size := Nat.le_trans h16 (Nat.le_trans g7.size g8.size)
          have b78 := (g8.block t7).trans b7
          have SU8 : IsSl Kd.unique w8 (fun b => Fresh w1.heap.size w8 b ∧ b ≠ w3.heap.size) A2 l2 l2 t.uniques := HSU.out.mono (fun b hb => ⟨(hb.1.step hG6.size (hG6.block b hb.1.2.1 (by have := hb.1.1; omega))).grow (g7.trans g8), hb.2⟩) (fun b hb => ((g7.trans g8).block (Nat.lt_of_lt_of_le hb.1.2.1 hG6.size)).trans (hG6.block b hb.1.2.1 (by have := hb.1.1; omega)))
          have SRC : IsSl Kd.unique w8 (fun b => Fresh w1.heap.size w8 b ∧ b ≠ w3.heap.size) (some ⟨w7.heap.size, 0, none⟩) 1 1 [⟨[j]⟩] := unique1 b8 ⟨⟨Nat.le_trans h16 g7.size, t8, (free_of b8).2⟩, by omega⟩ (int1 b78 ⟨⟨h16, Nat.lt_of_lt_of_le t7 g8.size, (free_of b78).2⟩, by omega⟩)
          refine wpAnyH_ready (rs := [1]) (by kernel_rfl) (by simp) ?_
          refine AllReadyH.cons rfl (fun K hK => ?_) AllReadyH.nil
          go_simp
          refine hK.out _ _ trivial (fun hHeld => ?_)
          clear hK K
          (try refine held_put 38 rfl ?_)
          (try simp only [Act.put, List.setIfInBounds_toArray, List.set_cons_zero, List.set_cons_succ])
          refine wpAnyH_ready (rs := [7]) (by kernel_rfl) (by simp) ?_
          refine AllReadyH.cons rfl (fun K hK => ?_) AllReadyH.nil
          refine step_appN ones_uniqueJ elem_uniqueJ (by rfl) (.tmp 38) (.tmp 43) (by rfl) (by rfl) SU8 (fun b hb => hb.1.2.1) (by rfl) SRC (by decide) (q := l2 + 1) rfl (by unfold maxLen; omega) (by omega) (fun A9 c9 w9 sl9 g9 => ?_)
          refine hK.out _ _ trivial (fun hHeld => ?_)
          clear hK K
          (try refine held_put 44 rfl ?_)
          (try simp only [Act.put, List.setIfInBounds_toArray, List.set_cons_zero, List.set_cons_succ])
          have G59 : GrowX g w5 w9 := G58.trans (GrowX.of g9)
          have q9 := (G59.block _ s5 hz4).trans q5
          have s9 : w3.heap.size < w9.heap.size := Nat.lt_of_lt_of_le s5 G59.size
          obtain ⟨n0, n1, n2', n3, n4, n5⟩ := cells_6 q9
          have nf := (free_of q9).2
          clear p0 p1 p2 p3 p4 p5 pf
          ((refine held_take (i := 8) 45 (v := ?_) rfl rfl (by kernel_rfl) (by kernel_rfl) (by kernel_rfl) (fun _ _ _ h => h) (by kernel_rfl) ?_ (by assumption) ?_; rotate_left 1; (focus (intro w hSw; (try dsimp only at hSw); go_simp; (try with_reducible rfl); done)); all_goals (try simp only [Act.put, List.setIfInBounds_toArray, List.set_cons_zero, List.set_cons_succ])))
          refine wpAnyH_ready (rs := [9]) (by kernel_rfl) (by simp) ?_
          refine AllReadyH.cons rfl (fun K hK => ?_) AllReadyH.nil
          go_simp
          generalize hX : World.setCell _ _ _ = X at *
          refine hK.out _ _ trivial (fun hHeld => ?_)
          clear hK K
          (try simp only [Act.put, List.setIfInBounds_toArray, List.set_cons_zero, List.set_cons_succ])
          refine wpAnyH_done (by kernel_rfl) ?_ _
          have oth : ∀ b, b ≠ w3.heap.size → X.heap[b]? = w9.heap[b]? := fun b hb => by rw [← hX]; exact Below.heap_setCell _ _ _ _ hb
          have szX : X.heap.size = w9.heap.size := by rw [← hX]; simp [World.setCell]
          have own := put_own q9 3 (.slice A9 (l2 + 1) c9)
          rw [hX] at own
          have q7 : X.heap[w3.heap.size]? = some (.cells #[.string t.name, .slice A0 l0 k0, .slice A1 l1 k1, .slice A9 (l2 + 1) c9, .slice A3 l3 k3, .slice A4 l4 k4] 34 (0, 0)) := own
          have s7 : w3.heap.size < X.heap.size := by rw [szX]; exact s9
          have r7 := (oth w.heap.size (by omega)).trans ((G59.block _ (by omega : w.heap.size < w5.heap.size) (by omega)).trans q0)
          have r8 : w.heap.size < X.heap.size := by omega
          have GX : Grow w X := by rw [← hX]; exact ((G5.trans G59).grow GW1 hwg).set (by show w.heap.size ≤ w3.heap.size; omega) _
          have RD9 : Kd.table.rd w9 (fun b => Fresh w1.heap.size w9 b ∧ b ≠ w3.heap.size) [.string t.name, .slice A0 l0 k0, .slice A1 l1 k1, .slice A2 l2 l2, .slice A3 l3 k3, .slice A4 l4 k4] t := Kd.table.mono HRD5.out (fun b hb => ⟨hb.1.1.step G59.size (G59.block b hb.1.1.2.1 (by have := hb.1.1.1; omega)), Nat.ne_of_lt hb.2⟩) (fun b hb => G59.block b hb.1.1.2.1 (by have := hb.1.1.1; omega))
          have NEW : Kd.table.rd X (Fresh w1.heap.size X) [.string t.name, .slice A0 l0 k0, .slice A1 l1 k1, .slice A9 (l2 + 1) c9, .slice A3 l3 k3, .slice A4 l4 k4] { t with uniques := t.uniques ++ [⟨[j]⟩] } :=
            Kd.table.mono (w := w9) (S := fun b => Fresh w1.heap.size w9 b ∧ b ≠ w3.heap.size) (rd_uniques RD9 (sl9.mono (fun b hb => by rcases hb with ⟨hb, hz⟩ | ⟨h1, h2, h3⟩; exact ⟨hb.grow g9, hz⟩; exact ⟨⟨Nat.le_trans h18 h1, h2, h3⟩, by omega⟩) (fun _ _ => rfl))) (fun b hb => hb.1.step (by rw [szX]; exact Nat.le_refl _) (oth b hb.2)) (fun b hb => oth b hb.2)
          obtain ⟨m0, m1, m2, m3, m4, m5⟩ := cells_6 q7
          have mf := (free_of q7).2
          obtain ⟨x0, x1, x2, x3, x4, x5⟩ := cells_6 r7
          have xf := (free_of r7).2
          clear n0 n1 n2' n3 n4 n5 nf u0 u1 u2 u3 u4 u5 uf q5 q0 hX v3 own
          go_wp2_with fail
          refine bodyPost_ret (v := .agg #[.string t.name, .slice A0 l0 k0, .slice A1 l1 k1, .slice A9 (l2 + 1) c9, .slice A3 l3 k3, .slice A4 l4 k4]) (by simp [results, Try.results12, go_sem, x0, x1, x2, x3, x4, x5]) rfl ?_
          exact tab_out (B := w1.heap.size) hwB NEW GX rfl
  · go_wp2_with fail
    refine bodyPost_ret (v := .agg #[.string t.name, .slice A0 l0 k0, .slice A1 l1 k1, .slice A2 l2 l2, .slice A3 l3 k3, .slice A4 l4 k4]) (by simp [results, Try.results12, go_sem, u0, u1, u2, u3, u4, u5]) rfl ?_
    exact tab_out (B := w1.heap.size) hwB (Kd.table.mono HRD5.out (fun b hb => hb.1.1) (fun _ _ => rfl)) (G5.grow GW1 hwg) rfl
end Go.Proofs.Ytjeilgogjoidjaa
