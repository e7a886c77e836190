import Derived.Test.YtjeilgogjoidjaaDrawU
/-! What is drawn for TableAt, ColAt, SchemaOk, Refers and TableOk. -/
namespace Go.Proofs.Ytjeilgogjoidjaa
open Go.RowKit
set_option linter.unusedVariables false
set_option linter.unusedSimpArgs false
theorem isl_gX {α : Type} {k : Kd α} {g B : Nat} {w w' : World} {A : Option Addr} {n c : Nat} {xs : List α} (h : IsSl k w (Fresh B w) A n c xs) (hG : GrowX g w w') (hg : g < B) : IsSl k w' (Fresh B w') A n c xs :=
  h.mono (fun b hb => hb.step hG.size (hG.block b hb.2.1 (by have := hb.1; omega))) (fun b hb => hG.block b hb.2.1 (by have := hb.1; omega))
theorem cells_6 {w : World} {P : Nat} {a b c d e f : Value} {T : TypeId} (h : w.heap[P]? = some (.cells #[a, b, c, d, e, f] T (0, 0))) :
    w.cell? ⟨P, 0, none⟩ = some a ∧ w.cell? ⟨P, 1, none⟩ = some b ∧ w.cell? ⟨P, 2, none⟩ = some c ∧ w.cell? ⟨P, 3, none⟩ = some d ∧ w.cell? ⟨P, 4, none⟩ = some e ∧ w.cell? ⟨P, 5, none⟩ = some f :=
  ⟨(free_of h).1 0, (free_of h).1 1, (free_of h).1 2, (free_of h).1 3, (free_of h).1 4, (free_of h).1 5⟩
theorem strs4 (a b c d : ByteArray) (ha : a.size ≤ maxLen ∧ b.size ≤ maxLen ∧ c.size ≤ maxLen ∧ d.size ≤ maxLen) {y : Nat} (hy : y < 4) : ∃ nm : ByteArray, (#[.string a, .string b, .string c, .string d] : Array Value)[y]? = some (.string nm) ∧ nm.size ≤ maxLen := by
  rcases y with _ | _ | _ | _ | y
  · exact ⟨a, rfl, ha.1⟩
  · exact ⟨b, rfl, ha.2.1⟩
  · exact ⟨c, rfl, ha.2.2.1⟩
  · exact ⟨d, rfl, ha.2.2.2⟩
  · omega
theorem below_nat {n y : Int} (hy : RdBelow n y) (hn : 0 < n) : ∃ k : Nat, y = (k : Int) ∧ (k : Int) < n ∧ (0 : Int) ≤ (k : Int) := by
  unfold RdBelow at hy
  exact ⟨y.toNat, by omega, by omega, by omega⟩
/-- Tables and a name are handed back. -/
def TabsName (w : World) (e : Ending) (w' : World) : Prop := ∃ (A : Option Addr) (n c : Nat) (s : List Table) (nm : ByteArray), e = .returned (.tuple #[.slice A n c, .string nm]) ∧ IsSl Kd.table w' (Fresh w.heap.size w') A n c s ∧ n ≤ 3 ∧ nm.size ≤ maxLen ∧ Grow w w'
set_option maxRecDepth 20000 in
set_option maxHeartbeats 8000000 in
theorem drawTableAt_any {A : Option Addr} {len cap : Nat} {xs : List Int} (w : World) (h : IsSl Kd.byte w (· < w.heap.size) A len cap xs) :
    Calls Try.prog 8 #[.slice A len cap] w (TabsName w) := by
  go_enter Try.func8, Try.ntmps8
  go_wp2_with fail
  refine (l1Open_any w h).mono ?_
  rintro e w1 ⟨g, rfl, hg, hG1, hR1⟩
  have hgl := hR1.lt
  go_wp2_with fail
  refine (schema_any g _ hR1).mono ?_
  rintro e w2 ⟨A2, n2, c2, s2, rfl, own2, h1, h3, hb, hG2, hR2⟩
  have hg2 : g < w2.heap.size := hR2.lt
  have hw1 := hG1.size
  have FIN : ∀ w', GrowX g w2 w' → ∀ nm : ByteArray, nm.size ≤ maxLen → TabsName w (.returned (.tuple #[.slice A2 n2 c2, .string nm])) w' := fun w' hw' nm hn =>
    ⟨A2, n2, c2, s2, nm, rfl, ((own2.growX hw' hgl).low hw1).isSl, h3, hn, (hG2.trans hw').grow hG1 hg⟩
  have HFIN := Lib.hid FIN
  clear FIN
  go_wp2_with fail
  refine wp_region_held_drew (S := (fun w' => GrowX g w2 w' ∧ SameX g w2 w')) (by kernel_rfl) (by exact ((GrowX.refl g w2).drew).both) (fun hHeld => ?_)
  ((refine held_take (i := 0) 10 (v := ?_) rfl rfl (by kernel_rfl) (by kernel_rfl) (by kernel_rfl) (fun _ _ _ h => h) (by kernel_rfl) ?_ (by assumption) ?_; rotate_left 1; (focus (intro w hSw; (try dsimp only at hSw); go_simp; (try with_reducible rfl); done)); all_goals (try simp only [Act.put, List.setIfInBounds_toArray, List.set_cons_zero, List.set_cons_succ])); (refine held_take (i := 2) 12 (v := ?_) rfl rfl (by kernel_rfl) (by kernel_rfl) (by kernel_rfl) (fun _ _ _ h => h) (by kernel_rfl) ?_ (by assumption) ?_; rotate_left 1; (focus (intro w hSw; (try dsimp only at hSw); go_simp; (try with_reducible rfl); done)); all_goals (try simp only [Act.put, List.setIfInBounds_toArray, List.set_cons_zero, List.set_cons_succ])))
  refine wpAnyH_ready (rs := [1, 3]) (by kernel_rfl) (by simp) ?_
  refine AllReadyH.cons rfl (fun K hK => ?_) (AllReadyH.cons rfl (fun K hK => ?_) AllReadyH.nil)
  · go_simp
    refine hK.out _ _ (by exact GrowX.both (((GrowX.refl g w2).drew).alloc _)) (fun hHeld => ?_)
    clear hK K
    (try refine held_put 11 rfl ?_)
    (try simp only [Act.put, List.setIfInBounds_toArray, List.set_cons_zero, List.set_cons_succ])
    generalize hA : World.alloc w2 _ = Wa at hHeld ⊢
    obtain ⟨gA, sA, bA⟩ := boxedB hA
    clear hA
    refine wpAnyH_ready (rs := [3]) (by kernel_rfl) (by simp) ?_
    refine AllReadyH.cons rfl (fun K hK => ?_) AllReadyH.nil
    go_simp
    refine (below_any g _ _ (hR2.of_grow gA.drew) (by decide)).mono ?_
    rintro e w3 ⟨y, rfl, hy, hG3, hR3⟩
    obtain ⟨yn, rfl, y1, y0⟩ := below_nat hy (by decide)
    have G3 : GrowX g w2 w3 := (GrowX.of gA.drew).trans hG3
    refine hK.out _ _ (by exact GrowX.both G3) (fun hHeld => ?_)
    clear hK K hy
    (try refine held_put 13 rfl ?_)
    (try simp only [Act.put, List.setIfInBounds_toArray, List.set_cons_zero, List.set_cons_succ])
    obtain ⟨nm, hq, hnm⟩ := strs4 ⟨#[112]⟩ ⟨#[99]⟩ ⟨#[116, 114, 101, 101]⟩ ⟨#[120]⟩ (by decide) (y := yn) (by omega)
    have q3 := ((free_of ((hG3.block _ sA (by omega)).trans bA)).1 yn).trans hq
    have s3 := Nat.lt_of_lt_of_le sA hG3.size
    ((refine held_take (i := 6) 2 (v := ?_) rfl rfl (by kernel_rfl) (by kernel_rfl) (by kernel_rfl) (fun _ _ _ h => h) (by kernel_rfl) ?_ (by assumption) ?_; rotate_left 1; (focus (intro w hSw; (try dsimp only at hSw); go_simp; (try with_reducible rfl); done)); all_goals (try simp only [Act.put, List.setIfInBounds_toArray, List.set_cons_zero, List.set_cons_succ])))
    refine wpAnyH_ready (rs := [4]) (by kernel_rfl) (by simp) ?_
    refine AllReadyH.cons rfl (fun K hK => ?_) AllReadyH.nil
    go_simp
    refine hK.out _ _ (by exact GrowX.both G3) (fun hHeld => ?_)
    clear hK K
    (try refine held_put 14 rfl ?_)
    (try simp only [Act.put, List.setIfInBounds_toArray, List.set_cons_zero, List.set_cons_succ])
    refine wpAnyH_ready (rs := [5]) (by kernel_rfl) (by simp) ?_
    refine AllReadyH.cons rfl (fun K hK => ?_) AllReadyH.nil
    go_simp
    refine hK.out _ _ (by exact GrowX.both G3) (fun hHeld => ?_)
    clear hK K
    (try refine held_put 15 rfl ?_)
    (try simp only [Act.put, List.setIfInBounds_toArray, List.set_cons_zero, List.set_cons_succ])
    ((refine held_take (i := 7) 3 (v := ?_) rfl rfl (by kernel_rfl) (by kernel_rfl) (by kernel_rfl) (fun _ _ _ h => h) (by kernel_rfl) ?_ (by assumption) ?_; rotate_left 1; (focus (intro w hSw; (try dsimp only at hSw); go_simp; (try with_reducible rfl); done)); all_goals (try simp only [Act.put, List.setIfInBounds_toArray, List.set_cons_zero, List.set_cons_succ])))
    refine wpAnyH_done (by kernel_rfl) ?_ _
    go_wp2
    go_ret2
    exact HFIN.out _ G3 nm hnm
  · go_simp
    refine (below_any g _ _ (hR2.of_grow (Grow.refl _).drew) (by decide)).mono ?_
    rintro e w3 ⟨y, rfl, hy, hG3, hR3⟩
    obtain ⟨yn, rfl, y1, y0⟩ := below_nat hy (by decide)
    have G2 : GrowX g w2 w3 := ((GrowX.refl g w2).drew).trans hG3
    refine hK.out _ _ (by exact GrowX.both G2) (fun hHeld => ?_)
    clear hK K hy
    (try refine held_put 13 rfl ?_)
    (try simp only [Act.put, List.setIfInBounds_toArray, List.set_cons_zero, List.set_cons_succ])
    ((refine held_take (i := 6) 2 (v := ?_) rfl rfl (by kernel_rfl) (by kernel_rfl) (by kernel_rfl) (fun _ _ _ h => h) (by kernel_rfl) ?_ (by assumption) ?_; rotate_left 1; (focus (intro w hSw; (try dsimp only at hSw); go_simp; (try with_reducible rfl); done)); all_goals (try simp only [Act.put, List.setIfInBounds_toArray, List.set_cons_zero, List.set_cons_succ])))
    refine wpAnyH_ready (rs := [1]) (by kernel_rfl) (by simp) ?_
    refine AllReadyH.cons rfl (fun K hK => ?_) AllReadyH.nil
    go_simp
    refine hK.out _ _ (by exact GrowX.both (G2.alloc _)) (fun hHeld => ?_)
    clear hK K
    (try refine held_put 11 rfl ?_)
    (try simp only [Act.put, List.setIfInBounds_toArray, List.set_cons_zero, List.set_cons_succ])
    generalize hA : World.alloc w3 _ = Wa at hHeld ⊢
    obtain ⟨gA, s3, bA⟩ := boxedB hA
    clear hA
    have G3 : GrowX g w2 Wa := G2.trans (GrowX.of gA)
    obtain ⟨nm, hq, hnm⟩ := strs4 ⟨#[112]⟩ ⟨#[99]⟩ ⟨#[116, 114, 101, 101]⟩ ⟨#[120]⟩ (by decide) (y := yn) (by omega)
    have q3 := ((free_of bA).1 yn).trans hq
    refine wpAnyH_ready (rs := [4]) (by kernel_rfl) (by simp) ?_
    refine AllReadyH.cons rfl (fun K hK => ?_) AllReadyH.nil
    go_simp
    refine hK.out _ _ (by exact GrowX.both G3) (fun hHeld => ?_)
    clear hK K
    (try refine held_put 14 rfl ?_)
    (try simp only [Act.put, List.setIfInBounds_toArray, List.set_cons_zero, List.set_cons_succ])
    refine wpAnyH_ready (rs := [5]) (by kernel_rfl) (by simp) ?_
    refine AllReadyH.cons rfl (fun K hK => ?_) AllReadyH.nil
    go_simp
    refine hK.out _ _ (by exact GrowX.both G3) (fun hHeld => ?_)
    clear hK K
    (try refine held_put 15 rfl ?_)
    (try simp only [Act.put, List.setIfInBounds_toArray, List.set_cons_zero, List.set_cons_succ])
    ((refine held_take (i := 7) 3 (v := ?_) rfl rfl (by kernel_rfl) (by kernel_rfl) (by kernel_rfl) (fun _ _ _ h => h) (by kernel_rfl) ?_ (by assumption) ?_; rotate_left 1; (focus (intro w hSw; (try dsimp only at hSw); go_simp; (try with_reducible rfl); done)); all_goals (try simp only [Act.put, List.setIfInBounds_toArray, List.set_cons_zero, List.set_cons_succ])))
    refine wpAnyH_done (by kernel_rfl) ?_ _
    go_wp2
    go_ret2
    exact HFIN.out _ G3 nm hnm
theorem drawRefers_any {A : Option Addr} {len cap : Nat} {xs : List Int} (w : World) (h : IsSl Kd.byte w (· < w.heap.size) A len cap xs) :
    Calls Try.prog 14 #[.slice A len cap] w (TabsName w) := by
  go_enter Try.func14, Try.ntmps14
  go_wp2_with fail
  refine (drawTableAt_any w h).mono ?_
  rintro e w1 ⟨A1, n, c, s, nm, rfl, hs, h3, hn, hg⟩
  go_wp2
  go_ret2
  exact ⟨A1, n, c, s, nm, rfl, hs, h3, hn, hg⟩
/-- Tables are handed back. -/
def TabsAny (w : World) (e : Ending) (w' : World) : Prop := ∃ (A : Option Addr) (n c : Nat) (s : List Table), e = .returned (.slice A n c) ∧ IsSl Kd.table w' (Fresh w.heap.size w') A n c s ∧ n ≤ 4 ∧ Grow w w'
set_option maxRecDepth 20000 in
set_option maxHeartbeats 8000000 in
theorem drawSchemaOk_any {A : Option Addr} {len cap : Nat} {xs : List Int} (w : World) (h : IsSl Kd.byte w (· < w.heap.size) A len cap xs) :
    Calls Try.prog 13 #[.slice A len cap] w (TabsAny w) := by
  go_enter Try.func13, Try.ntmps13
  go_wp2_with fail
  refine (l1Open_any w h).mono ?_
  rintro e w1 ⟨g, rfl, hg, hG1, hR1⟩
  have hgl := hR1.lt
  go_wp2_with fail
  refine (schema_any g _ hR1).mono ?_
  rintro e w2 ⟨A2, n2, c2, s2, rfl, own2, h1, h3, hb, hG2, hR2⟩
  have hg2 : g < w2.heap.size := hR2.lt
  have hw1 := hG1.size
  go_wp2_with fail
  refine (below_any g 8 _ hR2 (by decide)).mono ?_
  rintro e w3 ⟨y, rfl, hy, hG3, hR3⟩
  have G3 : GrowX g w1 w3 := hG2.trans hG3
  have own3 := own2.growX hG3 hgl
  have hcase : y = 6 ∨ y = 7 ∨ ((y == 6) = false ∧ (y == 7) = false) := by simp only [beq_eq_false_iff_ne]; omega
  clear hy
  obtain ⟨P, rfl⟩ := own3.there (by omega)
  have hle := own3.le
  have hc2 := hle.2
  unfold maxLen at hc2
  have c0 : (0 : Int) ≤ 1 := by decide
  have c1 : (1 : Int) ≤ (n2 : Int) := by omega
  have c3 : (n2 : Int) ≤ (c2 : Int) := by omega
  rcases hcase with rfl | rfl | ⟨y6, y7⟩
  · by_cases hc1 : c2 = 1
    · obtain rfl : c2 = 1 := hc1
      obtain rfl : n2 = 1 := by omega
      go_wp2
      go_ret
      exact ⟨_, _, _, [], rfl, ⟨rfl, Nat.zero_le _, Nat.zero_le _, fun h => absurd h (Nat.lt_irrefl _)⟩, by omega, G3.grow hG1 hg⟩
    · have hc4 : ¬ (c2 - 1 = 0) := by omega
      go_wp2
      go_ret
      have hd := (own3.low hw1).isSl.drop h1
      simp only [Nat.one_mul, Nat.zero_add] at hd
      exact ⟨_, _, _, _, rfl, hd, by omega, G3.grow hG1 hg⟩
  · obtain ⟨t0, ts, rfl⟩ : ∃ t0 ts, s2 = t0 :: ts := by
      have hlen := own3.len
      cases s2 with
      | nil => simp at hlen; omega
      | cons a l => exact ⟨a, l, rfl⟩
    obtain ⟨A0, A1, A2, A3, A4, l0, k0, l1, k1, l2, k2, l3, k3, l4, k4, hrd, hBP, hPs, fP, d0, d1, d2, d3, d4, d5⟩ := tab_box own3
    have OWN := Lib.hid own3
    have HRD := Lib.hid hrd
    have hn2 : (0 : Int) < (n2 : Int) := by omega
    clear own3 hrd own2
    have gL : Grow w3 (w3.alloc (.cells #[.string t0.name, .slice A0 l0 k0, .slice A1 l1 k1, .slice A2 l2 k2, .slice A3 l3 k3, .slice A4 l4 k4] 34)) := (Grow.refl w3).alloc _
    have SRC : IsSl Kd.table (w3.alloc (.cells #[.string t0.name, .slice A0 l0 k0, .slice A1 l1 k1, .slice A2 l2 k2, .slice A3 l3 k3, .slice A4 l4 k4] 34)) (Led w1.heap.size (w3.alloc (.cells #[.string t0.name, .slice A0 l0 k0, .slice A1 l1 k1, .slice A2 l2 k2, .slice A3 l3 k3, .slice A4 l4 k4] 34)) (some ⟨P, 0, none⟩)) (some ⟨w3.heap.size, 0, none⟩) 1 1 [t0] := by
      have e0 := new_block w3 (.cells #[.string t0.name, .slice A0 l0 k0, .slice A1 l1 k1, .slice A2 l2 k2, .slice A3 l3 k3, .slice A4 l4 k4] 34)
      exact isSl_lit e0 (flat_one (Kd.table.mono HRD.out (fun b hb => ⟨hb.1.grow gL, hb.2⟩) (fun b hb => gL.block hb.1.2.1))) rfl (by decide) (Led.of e0 G3.size (by omega))
    go_wp2_with (at_builtin; refine wpList_appG ones_table elem_table rfl (.tmp 17) (.tmp 21) (by rfl) (by rfl) (OWN.out.grow gL) (Nat.le_trans G3.size gL.size) (by rfl) SRC (fun _ h => h) (q := n2 + 1) rfl (by unfold maxLen; omega) (by omega) (fun A12 c12 w12 ap12 => ?_))
    go_ret
    exact ⟨_, _, _, _, rfl, (ap12.own.low hw1).isSl, by omega, (ap12.growX (G3.alloc _) (Nat.le_refl _)).grow hG1 hg⟩
  · go_wp2
    go_ret
    exact ⟨_, _, _, _, rfl, (own3.low hw1).isSl, by omega, G3.grow hG1 hg⟩
end Go.Proofs.Ytjeilgogjoidjaa
