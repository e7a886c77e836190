import Derived.Test.YtjeilgogjoidjaaGreatFlawsJ
/-! The flaws of the reference. -/
namespace Go.Proofs.YtjeilgogjoidjaaGreat
open Go.RowKit
set_option linter.unusedVariables false
set_option linter.unusedSimpArgs false
/-- Are there others among these? -/
def otherB (id : Int) (l : List Int) : Bool := l.any fun i => i != id
def twiceB (rows : List Row) (cols : List Int) (x : Row) : Bool := knownV cols x.vals && otherB x.id (foundV rows cols (keyV cols x.vals))
def aloneB (t : Table) (rows : List Row) (x : Row) : Bool := !(keysOf t).any fun cols => twiceB rows cols x
theorem other_found (rows : List Row) (cols : List Int) (key : List Val) (id : Int) : otherB id (foundV rows cols key) = rows.any fun r => decide (r.id ≠ id) && hasB cols r.vals key := by
  unfold otherB foundV
  rw [List.any_map, List.any_filter]
  congr 1
  funext r
  simp [Function.comp, Bool.and_comm]
  cases hasB cols r.vals key <;> simp [bne, BEq.beq]
theorem rival_alone (t : Table) (rows : List Row) (x : Row) : (!(rivalV t rows x.id x.vals).isEmpty) = !aloneB t rows x := by
  unfold aloneB
  rw [Bool.not_not]
  have h1 : (!(rivalV t rows x.id x.vals).isEmpty) = rows.any (rivalP t x.id x.vals) := by
    unfold rivalV
    rw [List.isEmpty_map]
    induction rows with
    | nil => rfl
    | cons a l ih =>
      rw [List.filter_cons, List.any_cons]
      cases rivalP t x.id x.vals a <;> simp_all
  rw [h1]
  rw [Bool.eq_iff_iff]
  simp only [List.any_eq_true, rivalP, Bool.and_eq_true, twiceB, other_found, rivP]
  constructor
  · rintro ⟨r, hr, hne, cols, hc, hk, hh⟩
    exact ⟨cols, hc, hk, r, hr, hne, hh⟩
  · rintro ⟨cols, hc, hk, r, hr, hne, hh⟩
    exact ⟨r, hr, hne, cols, hc, hk, hh⟩
theorem other_no {id : Int} {l : List Int} {k : Nat} {i : Int} (hi : l[k]? = some i) (h : (i != id) = false) (hb : otherB id (l.take k) = false) : otherB id (l.take (k + 1)) = false := by
  rw [take_snoc hi]; simp only [otherB, List.any_append, List.any_cons, List.any_nil, Bool.or_false] at hb ⊢; rw [hb, h]; rfl
theorem other_yes {id : Int} {l : List Int} {k : Nat} {i : Int} (hi : l[k]? = some i) (h : (i != id) = true) : otherB id l = true :=
  List.any_eq_true.mpr ⟨i, List.mem_of_getElem? hi, h⟩
set_option maxHeartbeats 2000000 in
theorem l5Twice_any {x : Row} {A B C : Option Addr} {la ca lb cb lc cc : Nat} {rows : List Row} {cols : List Int} (w : World) (hr : IsSl Kd.row w (· < w.heap.size) A la ca rows) (h : IsSl Kd.int w (· < w.heap.size) B lb cb cols) (hv : IsSl Kd.val w (· < w.heap.size) C lc cc x.vals)
    (hl : lb ≤ 1048576) (hla : la ≤ 1048576) (hin : ∀ r ∈ rows, InCols cols r.vals.length) (hx : ∀ c ∈ cols, 0 ≤ c ∧ c < (lc : Int)) :
    Calls Tryz.prog 138 #[.agg #[.slice A la ca], .slice B lb cb, .agg #[.int .i64 x.id, .slice C lc cc]] w (Ret w (.bool (twiceB rows cols x))) := by
  have HI := Lib.hid hin
  have HX := Lib.hid hx
  clear hin hx
  cases hkn : knownV cols x.vals with
  | false =>
    have hf := Lib.hid (show twiceB rows cols x = false by rw [twiceB, hkn]; rfl)
    have HK := Lib.hid hkn
    clear hkn
    go_enter Tryz.func138, Tryz.ntmps138
    go_wp2_with fail
    generalize hW : World.alloc (World.alloc w _) _ = W
    obtain ⟨hg, hs, hs', k1, k2⟩ := boxed2 hW
    clear hW
    refine (l4Key_eq HK.out _ (h.grow hg) (hv.grow hg) hl HX.out).mono ?_
    rintro e w1 ⟨A1, l1, c1, rfl, t1, g1⟩
    go_wp2
    go_ret
    exact ⟨ret_bool hf.out.symm, hg.trans g1⟩
  | true =>
    have hf := Lib.hid (show twiceB rows cols x = otherB x.id (foundV rows cols (keyV cols x.vals)) by rw [twiceB, hkn]; rfl)
    have HK := Lib.hid hkn
    clear hkn
    go_enter Tryz.func138, Tryz.ntmps138
    go_wp2_with fail
    generalize hW : World.alloc (World.alloc w _) _ = W
    obtain ⟨hg, hs, hs', k1, k2⟩ := boxed2 hW
    clear hW
    refine (l4Key_eq HK.out _ (h.grow hg) (hv.grow hg) hl HX.out).mono ?_
    rintro e w1 ⟨A1, l1, c1, rfl, t1, g1⟩
    have hc1 := g1.same
    go_wp2_with fail
    refine (l4Find_any _ (hr.grow (hg.trans g1)) (h.grow (hg.trans g1)) t1.fresh hl hla HI.out).mono ?_
    rintro e w2 ⟨A2, l2, c2, rfl, t2, g2⟩
    have g02 := hg.trans (g1.trans g2)
    have gW2 := g1.trans g2
    have hl2 := Nat.le_trans t2.2.1 t2.2.2.1
    unfold maxLen at hl2
    have T2 := Lib.hid t2.1
    go_wp2
    go_loopw [10] (fun i wr => ∃ (k : Nat), k ≤ l2 ∧ i = .int .i64 k ∧ otherB x.id ((foundV rows cols (keyV cols x.vals)).take k) = false ∧ Grow w2 wr) (fun i _ => l2 - (intOf i).toNat)
    case atStart => exact ⟨0, Nat.zero_le _, rfl, by simp [otherB], Grow.refl _⟩
    case round =>
      obtain ⟨k, hk, rfl, hno, hG⟩ := hrel
      have HNO := Lib.hid hno
      clear hno
      by_cases hlt : k < l2
      · obtain ⟨b, off, i, rfl, hi, c0⟩ := int_at (t2.fresh.grow hG) hlt
        have hb := cells_lt c0
        have i0 : (0 : Int) ≤ (k : Int) := Int.natCast_nonneg k
        have i1 : (k : Int) < (l2 : Int) := Int.ofNat_lt.mpr hlt
        have hid := Nat.lt_of_lt_of_le hs' (gW2.trans hG).size
        have x0 := ((gW2.trans hG).same _ _ hs').trans (k2 0)
        cases hne : (i != x.id) with
        | true =>
          have hy := Lib.hid (other_yes hi hne)
          have hb1 : (i != x.id) = true := hne
          clear hne hi
          go_wp2_with fail
          refine wp_region_held_drew (S := (fun w' => Grow wr w' ∧ Same wr w')) (by kernel_rfl) (by exact Grow.both (by repeat (with_reducible first | exact Grow.refl _ | assumption | refine Grow.drew ?_ | refine Grow.alloc ?_ _ | refine Grow.set ?_ (by first | exact Nat.le_refl _ | (simp; done) | (simp; omega) | omega) _ | exact And.left (by assumption) | refine Grow.trans ?_ (by assumption)))) (fun hHeld => ?_)
          ((refine tk 0 30 rfl rfl (v := ?_) ?_ ?_; rotate_left 1; (focus (intro w hSw; (try dsimp only at hSw); go_simp; (try with_reducible rfl); done)); all_goals (try simp only [Act.put, List.setIfInBounds_toArray, List.set_cons_zero, List.set_cons_succ])); (refine tk 1 31 rfl rfl (v := ?_) ?_ ?_; rotate_left 1; (focus (intro w hSw; (try dsimp only at hSw); go_simp; (try with_reducible rfl); done)); all_goals (try simp only [Act.put, List.setIfInBounds_toArray, List.set_cons_zero, List.set_cons_succ])); (refine tk 2 32 rfl rfl (v := ?_) ?_ ?_; rotate_left 1; (focus (intro w hSw; (try dsimp only at hSw); go_simp; (try with_reducible rfl); done)); all_goals (try simp only [Act.put, List.setIfInBounds_toArray, List.set_cons_zero, List.set_cons_succ])); (refine tk 3 33 rfl rfl (v := ?_) ?_ ?_; rotate_left 1; (focus (intro w hSw; (try dsimp only at hSw); go_simp; (try with_reducible rfl); done)); all_goals (try simp only [Act.put, List.setIfInBounds_toArray, List.set_cons_zero, List.set_cons_succ])); (refine tk 4 34 rfl rfl (v := ?_) ?_ ?_; rotate_left 1; (focus (intro w hSw; (try dsimp only at hSw); go_simp; (try with_reducible rfl); done)); all_goals (try simp only [Act.put, List.setIfInBounds_toArray, List.set_cons_zero, List.set_cons_succ])); (refine tk 5 35 rfl rfl (v := ?_) ?_ ?_; rotate_left 1; (focus (intro w hSw; (try dsimp only at hSw); go_simp; (try with_reducible rfl); done)); all_goals (try simp only [Act.put, List.setIfInBounds_toArray, List.set_cons_zero, List.set_cons_succ])); (refine tk 6 36 rfl rfl (v := ?_) ?_ ?_; rotate_left 1; (focus (intro w hSw; (try dsimp only at hSw); go_simp; (try with_reducible rfl); done)); all_goals (try simp only [Act.put, List.setIfInBounds_toArray, List.set_cons_zero, List.set_cons_succ])))
          refine wpAnyH_done (by kernel_rfl) ?_ _
          go_wp2
          go_ret
          exact ⟨ret_bool (by rw [hf.out, hy.out]), g02.trans hG.drew⟩
        | false =>
          have hy := Lib.hid (other_no hi hne HNO.out)
          have hb1 : (i != x.id) = false := hne
          clear hne hi
          go_wp2_with fail
          refine wp_region_held_drew (S := (fun w' => Grow wr w' ∧ Same wr w')) (by kernel_rfl) (by exact Grow.both (by repeat (with_reducible first | exact Grow.refl _ | assumption | refine Grow.drew ?_ | refine Grow.alloc ?_ _ | refine Grow.set ?_ (by first | exact Nat.le_refl _ | (simp; done) | (simp; omega) | omega) _ | exact And.left (by assumption) | refine Grow.trans ?_ (by assumption)))) (fun hHeld => ?_)
          ((refine tk 0 30 rfl rfl (v := ?_) ?_ ?_; rotate_left 1; (focus (intro w hSw; (try dsimp only at hSw); go_simp; (try with_reducible rfl); done)); all_goals (try simp only [Act.put, List.setIfInBounds_toArray, List.set_cons_zero, List.set_cons_succ])); (refine tk 1 31 rfl rfl (v := ?_) ?_ ?_; rotate_left 1; (focus (intro w hSw; (try dsimp only at hSw); go_simp; (try with_reducible rfl); done)); all_goals (try simp only [Act.put, List.setIfInBounds_toArray, List.set_cons_zero, List.set_cons_succ])); (refine tk 2 32 rfl rfl (v := ?_) ?_ ?_; rotate_left 1; (focus (intro w hSw; (try dsimp only at hSw); go_simp; (try with_reducible rfl); done)); all_goals (try simp only [Act.put, List.setIfInBounds_toArray, List.set_cons_zero, List.set_cons_succ])); (refine tk 3 33 rfl rfl (v := ?_) ?_ ?_; rotate_left 1; (focus (intro w hSw; (try dsimp only at hSw); go_simp; (try with_reducible rfl); done)); all_goals (try simp only [Act.put, List.setIfInBounds_toArray, List.set_cons_zero, List.set_cons_succ])); (refine tk 4 34 rfl rfl (v := ?_) ?_ ?_; rotate_left 1; (focus (intro w hSw; (try dsimp only at hSw); go_simp; (try with_reducible rfl); done)); all_goals (try simp only [Act.put, List.setIfInBounds_toArray, List.set_cons_zero, List.set_cons_succ])); (refine tk 5 35 rfl rfl (v := ?_) ?_ ?_; rotate_left 1; (focus (intro w hSw; (try dsimp only at hSw); go_simp; (try with_reducible rfl); done)); all_goals (try simp only [Act.put, List.setIfInBounds_toArray, List.set_cons_zero, List.set_cons_succ])); (refine tk 6 36 rfl rfl (v := ?_) ?_ ?_; rotate_left 1; (focus (intro w hSw; (try dsimp only at hSw); go_simp; (try with_reducible rfl); done)); all_goals (try simp only [Act.put, List.setIfInBounds_toArray, List.set_cons_zero, List.set_cons_succ])))
          refine wpAnyH_done (by kernel_rfl) ?_ _
          go_wp2
          go_roundw
          case rel => exact ⟨k + 1, by omega, by go_num, hy.out, hG.drew⟩
          case measure => simp [intOf]; omega
      · have hy := HNO.out
        rw [List.take_of_length_le (by rw [T2.out]; omega)] at hy
        have hy := Lib.hid hy
        go_wp2
        go_ret
        exact ⟨ret_bool (by rw [hf.out, hy.out]), g02.trans hG⟩
theorem l5Twice_eq {x : Row} {A B C : Option Addr} {la ca lb cb lc cc : Nat} {rows : List Row} {cols : List Int} {r : Bool} (hb : twiceB rows cols x = r) (w : World) (hr : IsSl Kd.row w (· < w.heap.size) A la ca rows) (h : IsSl Kd.int w (· < w.heap.size) B lb cb cols) (hv : IsSl Kd.val w (· < w.heap.size) C lc cc x.vals)
    (hl : lb ≤ 1048576) (hla : la ≤ 1048576) (hin : ∀ r ∈ rows, InCols cols r.vals.length) (hx : ∀ c ∈ cols, 0 ≤ c ∧ c < (lc : Int)) :
    Calls Tryz.prog 138 #[.agg #[.slice A la ca], .slice B lb cb, .agg #[.int .i64 x.id, .slice C lc cc]] w (Ret w (.bool r)) := by
  subst hb; exact l5Twice_any w hr h hv hl hla hin hx
theorem uniq_no {t : Table} {rows : List Row} {x : Row} {k : Nat} {u : Unique} (hu : t.uniques[k]? = some u) (h : twiceB rows u.cols x = false) (hb : ((t.uniques.take k).any fun u => twiceB rows u.cols x) = false) : ((t.uniques.take (k + 1)).any fun u => twiceB rows u.cols x) = false := by
  rw [take_snoc hu, List.any_append, hb]; simp [h]
theorem alone_key {t : Table} {rows : List Row} {x : Row} (h : twiceB rows t.key x = true) : aloneB t rows x = false := by
  simp [aloneB, keysOf, h]
theorem alone_uniq {t : Table} {rows : List Row} {x : Row} {k : Nat} {u : Unique} (hu : t.uniques[k]? = some u) (h : twiceB rows u.cols x = true) : aloneB t rows x = false := by
  simp only [aloneB, keysOf, Bool.not_eq_false', List.any_cons, List.any_map, Bool.or_eq_true, List.any_eq_true]
  exact .inr ⟨u, List.mem_of_getElem? hu, h⟩
theorem alone_yes {t : Table} {rows : List Row} {x : Row} (h : twiceB rows t.key x = false) (hb : (t.uniques.any fun u => twiceB rows u.cols x) = false) : aloneB t rows x = true := by
  simp only [aloneB, keysOf, List.any_cons, List.any_map, h, Bool.false_or, Bool.not_eq_true']
  exact hb
set_option maxHeartbeats 2000000 in
theorem l5Unique_any {x : Row} (cs : List Value) (t : Table) {A C : Option Addr} {la ca lc cc : Nat} {rows : List Row} (w : World) (h : Kd.table.rd w (· < w.heap.size) cs t) (hr : IsSl Kd.row w (· < w.heap.size) A la ca rows) (hv : IsSl Kd.val w (· < w.heap.size) C lc cc x.vals)
    (hk : KeysIn t) (hu3 : t.uniques.length ≤ 3) (hvl : x.vals.length = t.cols.length) (hrl : ∀ r ∈ rows, r.vals.length = t.cols.length) (hla : la ≤ 1048576) :
    Calls Tryz.prog 87 #[.agg cs.toArray, .agg #[.slice A la ca], .agg #[.int .i64 x.id, .slice C lc cc]] w (Ret w (.bool (aloneB t rows x))) := by
  obtain ⟨Acols, Lcols, Ccols, Akey, Lkey, Ckey, Auniques, Luniques, Cuniques, Achecks, Lchecks, Cchecks, Afks, Lfks, Cfks, rfl, zname, scols, skey, suniques, schecks, sfks⟩ := h
  have hlc : lc = t.cols.length := by rw [← hvl]; exact hv.1.symm
  have HIN := Lib.hid (show ∀ cols ∈ keysOf t, (∀ r ∈ rows, InCols cols r.vals.length) ∧ (∀ c ∈ cols, 0 ≤ c ∧ c < (lc : Int)) ∧ cols.length ≤ 8 from fun cols hc => by
    obtain ⟨h1, h2⟩ := hk cols hc
    exact ⟨fun r hr => by rw [hrl r hr]; exact h1, by rw [hlc]; exact h1, h2⟩)
  obtain ⟨hi1, hi2, hi3⟩ := HIN.out t.key (List.mem_cons_self ..)
  rw [skey.1] at hi3
  have HI1 := Lib.hid hi1
  have HI2 := Lib.hid hi2
  have HU := Lib.hid suniques.1
  have hu4 : Luniques ≤ 3 := by rw [← suniques.1]; exact hu3
  clear hk hu3 hvl hrl hlc hi1 hi2
  obtain ⟨b0, hb0⟩ : ∃ b, twiceB rows t.key x = b := ⟨_, rfl⟩
  have HB0 := Lib.hid hb0
  clear hb0
  go_enter Tryz.func87, Tryz.ntmps87
  go_wp2_with fail
  generalize hW : World.alloc (World.alloc (World.alloc w _) _) _ = W
  obtain ⟨hg, s0, s1, s2, m0, m1, m2⟩ := boxed3 hW
  obtain ⟨k0, e0⟩ := free_of m0
  obtain ⟨k1, e1⟩ := free_of m1
  obtain ⟨k2, e2⟩ := free_of m2
  clear e0 e1 e2
  clear hW
  refine (l5Twice_eq HB0.out _ (hr.grow hg) (skey.grow hg) (hv.grow hg) (by omega) hla HI1.out HI2.out).mono ?_
  rintro e w1 ⟨rfl, g1⟩
  cases b0 with
  | true =>
    have hf := Lib.hid (alone_key HB0.out)
    go_wp2
    go_ret
    exact ⟨ret_bool hf.out.symm, hg.trans g1⟩
  | false =>
    go_wp2
    go_loopw [7] (fun i wr => ∃ (k : Nat), k ≤ Luniques ∧ i = .int .i64 k ∧ ((t.uniques.take k).any fun u => twiceB rows u.cols x) = false ∧ Grow W wr) (fun i _ => Luniques - (intOf i).toNat)
    case atStart => exact ⟨0, Nat.zero_le _, rfl, by simp, g1⟩
    case round =>
      obtain ⟨k, hk, rfl, hno, hG⟩ := hrel
      have HNO := Lib.hid hno
      clear hno
      have z0 := Nat.lt_of_lt_of_le s0 hG.size
      have z1 := Nat.lt_of_lt_of_le s1 hG.size
      have z2 := Nat.lt_of_lt_of_le s2 hG.size
      have t0 := (hG.same _ 0 s0).trans (k0 0)
      have t1 := (hG.same _ 1 s0).trans (k0 1)
      have t2 := (hG.same _ 2 s0).trans (k0 2)
      have t3 := (hG.same _ 3 s0).trans (k0 3)
      have d0 := (hG.same _ 0 s1).trans (k1 0)
      have x0 := (hG.same _ 0 s2).trans (k2 0)
      have x1 := (hG.same _ 1 s2).trans (k2 1)
      by_cases hlt : k < Luniques
      · obtain ⟨b, off, u, Ax, Lx, Cx, rfl, hu, _, hb, c0, sx, -⟩ := unique_at (suniques.grow (hg.trans hG)) hlt
        have hmem : u.cols ∈ keysOf t := List.mem_cons_of_mem _ (List.mem_map_of_mem (List.mem_of_getElem? hu.out))
        obtain ⟨hi1, hi2, hi4⟩ := HIN.out u.cols hmem
        rw [sx.1] at hi4
        have HI1 := Lib.hid hi1
        have HI2 := Lib.hid hi2
        have i0 : (0 : Int) ≤ (k : Int) := Int.natCast_nonneg k
        have i1 : (k : Int) < (Luniques : Int) := Int.ofNat_lt.mpr hlt
        obtain ⟨b1, hb1⟩ : ∃ b, twiceB rows u.cols x = b := ⟨_, rfl⟩
        have HB1 := Lib.hid hb1
        have SR := Lib.hid (hr.grow (hg.trans hG))
        have SV := Lib.hid (hv.grow (hg.trans hG))
        have SX := Lib.hid sx
        clear hb1 hi1 hi2 hmem
        go_wp2_with fail
        refine wp_region_held_drew (S := (fun w' => Grow wr w' ∧ Same wr w')) (by kernel_rfl) (by exact Grow.both (by repeat (with_reducible first | exact Grow.refl _ | assumption | refine Grow.drew ?_ | refine Grow.alloc ?_ _ | refine Grow.set ?_ (by first | exact Nat.le_refl _ | (simp; done) | (simp; omega) | omega) _ | exact And.left (by assumption) | refine Grow.trans ?_ (by assumption)))) (fun hHeld => ?_)
        ((refine tk 0 20 rfl rfl (v := ?_) ?_ ?_; rotate_left 1; (focus (intro w hSw; (try dsimp only at hSw); go_simp; (try with_reducible rfl); done)); all_goals (try simp only [Act.put, List.setIfInBounds_toArray, List.set_cons_zero, List.set_cons_succ])); (refine tk 1 21 rfl rfl (v := ?_) ?_ ?_; rotate_left 1; (focus (intro w hSw; (try dsimp only at hSw); go_simp; (try with_reducible rfl); done)); all_goals (try simp only [Act.put, List.setIfInBounds_toArray, List.set_cons_zero, List.set_cons_succ])); (refine tk 2 22 rfl rfl (v := ?_) ?_ ?_; rotate_left 1; (focus (intro w hSw; (try dsimp only at hSw); go_simp; (try with_reducible rfl); done)); all_goals (try simp only [Act.put, List.setIfInBounds_toArray, List.set_cons_zero, List.set_cons_succ])); (refine tk 3 23 rfl rfl (v := ?_) ?_ ?_; rotate_left 1; (focus (intro w hSw; (try dsimp only at hSw); go_simp; (try with_reducible rfl); done)); all_goals (try simp only [Act.put, List.setIfInBounds_toArray, List.set_cons_zero, List.set_cons_succ])); (refine tk 4 24 rfl rfl (v := ?_) ?_ ?_; rotate_left 1; (focus (intro w hSw; (try dsimp only at hSw); go_simp; (try with_reducible rfl); done)); all_goals (try simp only [Act.put, List.setIfInBounds_toArray, List.set_cons_zero, List.set_cons_succ])); (refine tk 5 25 rfl rfl (v := ?_) ?_ ?_; rotate_left 1; (focus (intro w hSw; (try dsimp only at hSw); go_simp; (try with_reducible rfl); done)); all_goals (try simp only [Act.put, List.setIfInBounds_toArray, List.set_cons_zero, List.set_cons_succ])); (refine tk 6 26 rfl rfl (v := ?_) ?_ ?_; rotate_left 1; (focus (intro w hSw; (try dsimp only at hSw); go_simp; (try with_reducible rfl); done)); all_goals (try simp only [Act.put, List.setIfInBounds_toArray, List.set_cons_zero, List.set_cons_succ])); (refine tk 7 27 rfl rfl (v := ?_) ?_ ?_; rotate_left 1; (focus (intro w hSw; (try dsimp only at hSw); go_simp; (try with_reducible rfl); done)); all_goals (try simp only [Act.put, List.setIfInBounds_toArray, List.set_cons_zero, List.set_cons_succ])))
        (refine wpAnyH_ready (rs := [8]) (by kernel_rfl) (by simp) ?_; refine AllReadyH.cons rfl (fun K hK => ?_) AllReadyH.nil; go_simp; (go_at_call 138; refine (l5Twice_eq HB1.out _ (SR.out.grow (And.left (by assumption))) (SX.out.grow (And.left (by assumption))) (SV.out.grow (And.left (by assumption))) (by omega) hla HI1.out HI2.out).mono ?_; rintro e w5 ⟨rfl, hb5⟩); refine hK.out _ _ (by exact Grow.both (by repeat (with_reducible first | exact Grow.refl _ | assumption | refine Grow.drew ?_ | refine Grow.alloc ?_ _ | refine Grow.set ?_ (by first | exact Nat.le_refl _ | (simp; done) | (simp; omega) | omega) _ | exact And.left (by assumption) | refine Grow.trans ?_ (by assumption)))) (fun hHeld => ?_); clear hK K; (try refine held_put 28 rfl ?_); (try simp only [Act.put, List.setIfInBounds_toArray, List.set_cons_zero, List.set_cons_succ]))
        obtain ⟨gX, _⟩ : Grow wr w5 ∧ Same wr w5 := by assumption
        refine wpAnyH_done (by kernel_rfl) ?_ _
        cases b1 with
        | true =>
          have hf := Lib.hid (alone_uniq hu.out HB1.out)
          go_wp2
          go_ret
          exact ⟨ret_bool hf.out.symm, hg.trans (hG.trans gX)⟩
        | false =>
          have hy := Lib.hid (uniq_no hu.out HB1.out HNO.out)
          go_wp2
          go_roundw
          case rel => exact ⟨k + 1, by omega, by go_num, hy.out, hG.trans gX⟩
          case measure => simp [intOf]; omega
      · have hy := HNO.out
        rw [List.take_of_length_le (by rw [HU.out]; omega)] at hy
        have hf := Lib.hid (alone_yes HB0.out hy)
        clear hy
        go_wp2
        go_ret
        exact ⟨ret_bool hf.out.symm, hg.trans hG⟩
theorem l3At_eqQ {A : Option Addr} {len cap : Nat} {xs : List Table} {name : ByteArray} {r : Int} (hr : tableAtV xs name = r) (w : World) (h : IsSl Kd.table w (· < w.heap.size) A len cap xs) :
    Calls Tryz.prog 136 #[.slice A len cap, .string name] w (Ret w (.int .i64 r)) := by
  subst hr; exact l3At_any name w h
theorem l4Find_eq {A B C : Option Addr} {la ca lb cb lc cc : Nat} {rows : List Row} {cols : List Int} {key : List Val} {b : Bool} (hb : (!(foundV rows cols key).isEmpty) = b) (w : World) (hr : IsSl Kd.row w (· < w.heap.size) A la ca rows) (h : IsSl Kd.int w (· < w.heap.size) B lb cb cols) (hk : IsSl Kd.val w (· < w.heap.size) C lc cc key)
    (hl : lb ≤ 1048576) (hla : la ≤ 1048576) (hin : ∀ r ∈ rows, InCols cols r.vals.length) : Calls Tryz.prog 166 #[.agg #[.slice A la ca], .slice B lb cb, .slice C lc cc] w (fun e w' => ∃ (P : Option Addr) (l c : Nat), e = .returned (.slice P l c) ∧ decide ((0 : Int) < (l : Int)) = b ∧ Grow w w') :=
  (l4Find_any w hr h hk hl hla hin).mono fun e w' ⟨P, l, c, he, hs, hg⟩ => ⟨P, l, c, he, by
    subst hb
    rw [← hs.1]
    cases foundV rows cols key with
    | nil => rfl
    | cons a l => simp, hg⟩
set_option maxHeartbeats 2000000 in
theorem l5Parent_any (cs : List Value) (f : Fk) {A B C : Option Addr} {la ca lb cb lc cc : Nat} {s : List Table} {db : List Data} {vals : List Val} (w : World) (hs : IsSl Kd.table w (· < w.heap.size) A la ca s) (hd : IsSl Kd.data w (· < w.heap.size) B lb cb db)
    (h : Kd.fk.rd w (· < w.heap.size) cs f) (hv : IsSl Kd.val w (· < w.heap.size) C lc cc vals) (hin : FkIn s db lc f) : Calls Tryz.prog 139 #[.slice A la ca, .slice B lb cb, .agg cs.toArray, .slice C lc cc] w (Ret w (.bool (!lostB s db vals f))) := by
  obtain ⟨Af, Lf, Cf, rfl, zt, sf⟩ := h
  obtain ⟨i1, i2, q, u, d, hu, hdq, hat, hk8, hr60, hrin⟩ := hin
  have hqa : q < la := by rw [← hs.1]; exact (List.getElem?_eq_some_iff.mp hu).1
  have hqb : q < lb := by rw [← hd.1]; exact (List.getElem?_eq_some_iff.mp hdq).1
  rw [sf.1] at i2
  have HI := Lib.hid i1
  have HAT := Lib.hid hat
  have HRI := Lib.hid hrin
  have q0 : (0 : Int) ≤ (q : Int) := Int.natCast_nonneg q
  have q1 : (q : Int) < (la : Int) := Int.ofNat_lt.mpr hqa
  have q2 : (q : Int) < (lb : Int) := Int.ofNat_lt.mpr hqb
  have hlost : lostB s db vals f = (knownV f.cols vals && (foundV d.rows u.key (keyV f.cols vals)).isEmpty) := by rw [lostB, hat, datAt_at hdq, tabAt_at hu]
  clear i1 hrin
  cases hkn : knownV f.cols vals with
  | false =>
    have hf := Lib.hid (show (!lostB s db vals f) = true by rw [hlost, hkn]; rfl)
    have HK := Lib.hid hkn
    clear hkn hlost hat
    go_enter Tryz.func139, Tryz.ntmps139
    go_wp2_with fail
    generalize hW : World.alloc w _ = W
    obtain ⟨hg, hs', k1⟩ := boxed1 hW
    clear hW
    have hcur := Grow.refl W
    have hc := hcur.same
    refine (l4Key_eq HK.out _ (sf.grow hg) (hv.grow hg) (by omega) HI.out).mono ?_
    rintro e w1 ⟨A2, l2, c2, rfl, k2, g1⟩
    have hc1 := g1.same
    go_wp2_with fail
    refine (l3At_eqQ HAT.out _ (hs.grow (hg.trans g1))).mono ?_
    rintro e w2 ⟨rfl, g2⟩
    go_wp2_with fail
    refine wp_region_held_drew (S := (fun w' => Grow w2 w' ∧ Same w2 w')) (by kernel_rfl) (by exact Grow.both (by repeat (with_reducible first | exact Grow.refl _ | assumption | refine Grow.drew ?_ | refine Grow.alloc ?_ _ | refine Grow.set ?_ (by first | exact Nat.le_refl _ | (simp; done) | (simp; omega) | omega) _ | exact And.left (by assumption) | refine Grow.trans ?_ (by assumption)))) (fun hHeld => ?_)
    ((refine tk 0 23 rfl rfl (v := ?_) ?_ ?_; rotate_left 1; (focus (intro w hSw; (try dsimp only at hSw); go_simp; (try with_reducible rfl); done)); all_goals (try simp only [Act.put, List.setIfInBounds_toArray, List.set_cons_zero, List.set_cons_succ])); (refine tk 1 24 rfl rfl (v := ?_) ?_ ?_; rotate_left 1; (focus (intro w hSw; (try dsimp only at hSw); go_simp; (try with_reducible rfl); done)); all_goals (try simp only [Act.put, List.setIfInBounds_toArray, List.set_cons_zero, List.set_cons_succ])); (refine tk 2 25 rfl rfl (v := ?_) ?_ ?_; rotate_left 1; (focus (intro w hSw; (try dsimp only at hSw); go_simp; (try with_reducible rfl); done)); all_goals (try simp only [Act.put, List.setIfInBounds_toArray, List.set_cons_zero, List.set_cons_succ])))
    (refine sk 3 26 rfl rfl ?_; (try simp only [Act.put, List.setIfInBounds_toArray, List.set_cons_zero, List.set_cons_succ]); refine sk 4 27 rfl rfl ?_; (try simp only [Act.put, List.setIfInBounds_toArray, List.set_cons_zero, List.set_cons_succ]); refine sk 5 28 rfl rfl ?_; (try simp only [Act.put, List.setIfInBounds_toArray, List.set_cons_zero, List.set_cons_succ]); refine sk 6 29 rfl rfl ?_; (try simp only [Act.put, List.setIfInBounds_toArray, List.set_cons_zero, List.set_cons_succ]); refine sk 7 30 rfl rfl ?_; (try simp only [Act.put, List.setIfInBounds_toArray, List.set_cons_zero, List.set_cons_succ]); refine sk 8 31 rfl rfl ?_; (try simp only [Act.put, List.setIfInBounds_toArray, List.set_cons_zero, List.set_cons_succ]); refine sk 9 32 rfl rfl ?_; (try simp only [Act.put, List.setIfInBounds_toArray, List.set_cons_zero, List.set_cons_succ]); refine sk 10 33 rfl rfl ?_; (try simp only [Act.put, List.setIfInBounds_toArray, List.set_cons_zero, List.set_cons_succ]); refine sk 11 34 rfl rfl ?_; (try simp only [Act.put, List.setIfInBounds_toArray, List.set_cons_zero, List.set_cons_succ]); refine sk 12 35 rfl rfl ?_; (try simp only [Act.put, List.setIfInBounds_toArray, List.set_cons_zero, List.set_cons_succ]); refine sk 13 36 rfl rfl ?_; (try simp only [Act.put, List.setIfInBounds_toArray, List.set_cons_zero, List.set_cons_succ]); refine sk 14 37 rfl rfl ?_; (try simp only [Act.put, List.setIfInBounds_toArray, List.set_cons_zero, List.set_cons_succ]); refine sk 15 38 rfl rfl ?_; (try simp only [Act.put, List.setIfInBounds_toArray, List.set_cons_zero, List.set_cons_succ]))
    ((refine tk 16 39 rfl rfl (v := ?_) ?_ ?_; rotate_left 1; (focus (intro w hSw; (try dsimp only at hSw); go_simp; (try with_reducible rfl); done)); all_goals (try simp only [Act.put, List.setIfInBounds_toArray, List.set_cons_zero, List.set_cons_succ])))
    ((refine tk 17 8 rfl rfl (v := ?_) ?_ ?_; rotate_left 1; (focus (intro w hSw; (try dsimp only at hSw); go_simp; (try with_reducible rfl); done)); all_goals (try simp only [Act.put, List.setIfInBounds_toArray, List.set_cons_zero, List.set_cons_succ])))
    refine wpAnyH_done (by kernel_rfl) ?_ _
    go_wp2
    go_ret
    exact ⟨ret_bool hf.out.symm, hg.trans (g1.trans g2.drew)⟩
  | true =>
    have HK := Lib.hid hkn
    obtain ⟨b, hb⟩ : ∃ b, (!(foundV d.rows u.key (keyV f.cols vals)).isEmpty) = b := ⟨_, rfl⟩
    have hf := Lib.hid (show (!lostB s db vals f) = b by rw [hlost, hkn, ← hb]; rfl)
    have HB := Lib.hid hb
    clear hkn hlost hat hb
    go_enter Tryz.func139, Tryz.ntmps139
    go_wp2_with fail
    generalize hW : World.alloc w _ = W
    obtain ⟨hg, hs', k1⟩ := boxed1 hW
    clear hW
    have hcur := Grow.refl W
    have hc := hcur.same
    refine (l4Key_eq HK.out _ (sf.grow hg) (hv.grow hg) (by omega) HI.out).mono ?_
    rintro e w1 ⟨A2, l2, c2, rfl, k2, g1⟩
    have hc1 := g1.same
    go_wp2_with fail
    refine (l3At_eqQ HAT.out _ (hs.grow (hg.trans g1))).mono ?_
    rintro e w2 ⟨rfl, g2⟩
    have g02 := hg.trans (g1.trans g2)
    obtain ⟨b1, off1, y, Acols, Lcols, Ccols, Akey, Lkey, Ckey, Auniques, Luniques, Cuniques, Achecks, Lchecks, Cchecks, Afks, Lfks, Cfks, rfl, hy, _, hb1, zname, c0, c1, c2', c3, c4, c5, -, skey, -, -, -, -⟩ := table_at (hs.grow g02) hqa
    obtain rfl : y = u := Option.some.inj (hy.out.symm.trans hu)
    obtain ⟨b3, off3, z, Ar, Lr, Cr, rfl, hz, _, hb3, e0, sr, -⟩ := data_at (hd.grow g02) hqb
    obtain rfl : z = d := Option.some.inj (hz.out.symm.trans hdq)
    rw [skey.1] at hk8
    rw [sr.1] at hr60
    have SK := Lib.hid skey
    have SR := Lib.hid sr
    have SV := Lib.hid (k2.fresh.grow g2)
    go_wp2_with fail
    refine wp_region_held_drew (S := (fun w' => Grow w2 w' ∧ Same w2 w')) (by kernel_rfl) (by exact Grow.both (by repeat (with_reducible first | exact Grow.refl _ | assumption | refine Grow.drew ?_ | refine Grow.alloc ?_ _ | refine Grow.set ?_ (by first | exact Nat.le_refl _ | (simp; done) | (simp; omega) | omega) _ | exact And.left (by assumption) | refine Grow.trans ?_ (by assumption)))) (fun hHeld => ?_)
    ((refine tk 0 23 rfl rfl (v := ?_) ?_ ?_; rotate_left 1; (focus (intro w hSw; (try dsimp only at hSw); go_simp; (try with_reducible rfl); done)); all_goals (try simp only [Act.put, List.setIfInBounds_toArray, List.set_cons_zero, List.set_cons_succ])); (refine tk 1 24 rfl rfl (v := ?_) ?_ ?_; rotate_left 1; (focus (intro w hSw; (try dsimp only at hSw); go_simp; (try with_reducible rfl); done)); all_goals (try simp only [Act.put, List.setIfInBounds_toArray, List.set_cons_zero, List.set_cons_succ])); (refine tk 2 25 rfl rfl (v := ?_) ?_ ?_; rotate_left 1; (focus (intro w hSw; (try dsimp only at hSw); go_simp; (try with_reducible rfl); done)); all_goals (try simp only [Act.put, List.setIfInBounds_toArray, List.set_cons_zero, List.set_cons_succ])); (refine tk 3 26 rfl rfl (v := ?_) ?_ ?_; rotate_left 1; (focus (intro w hSw; (try dsimp only at hSw); go_simp; (try with_reducible rfl); done)); all_goals (try simp only [Act.put, List.setIfInBounds_toArray, List.set_cons_zero, List.set_cons_succ])); (refine tk 4 27 rfl rfl (v := ?_) ?_ ?_; rotate_left 1; (focus (intro w hSw; (try dsimp only at hSw); go_simp; (try with_reducible rfl); done)); all_goals (try simp only [Act.put, List.setIfInBounds_toArray, List.set_cons_zero, List.set_cons_succ])); (refine tk 5 28 rfl rfl (v := ?_) ?_ ?_; rotate_left 1; (focus (intro w hSw; (try dsimp only at hSw); go_simp; (try with_reducible rfl); done)); all_goals (try simp only [Act.put, List.setIfInBounds_toArray, List.set_cons_zero, List.set_cons_succ])); (refine tk 6 29 rfl rfl (v := ?_) ?_ ?_; rotate_left 1; (focus (intro w hSw; (try dsimp only at hSw); go_simp; (try with_reducible rfl); done)); all_goals (try simp only [Act.put, List.setIfInBounds_toArray, List.set_cons_zero, List.set_cons_succ])); (refine tk 7 30 rfl rfl (v := ?_) ?_ ?_; rotate_left 1; (focus (intro w hSw; (try dsimp only at hSw); go_simp; (try with_reducible rfl); done)); all_goals (try simp only [Act.put, List.setIfInBounds_toArray, List.set_cons_zero, List.set_cons_succ])); (refine tk 8 31 rfl rfl (v := ?_) ?_ ?_; rotate_left 1; (focus (intro w hSw; (try dsimp only at hSw); go_simp; (try with_reducible rfl); done)); all_goals (try simp only [Act.put, List.setIfInBounds_toArray, List.set_cons_zero, List.set_cons_succ])); (refine tk 9 32 rfl rfl (v := ?_) ?_ ?_; rotate_left 1; (focus (intro w hSw; (try dsimp only at hSw); go_simp; (try with_reducible rfl); done)); all_goals (try simp only [Act.put, List.setIfInBounds_toArray, List.set_cons_zero, List.set_cons_succ])); (refine tk 10 33 rfl rfl (v := ?_) ?_ ?_; rotate_left 1; (focus (intro w hSw; (try dsimp only at hSw); go_simp; (try with_reducible rfl); done)); all_goals (try simp only [Act.put, List.setIfInBounds_toArray, List.set_cons_zero, List.set_cons_succ])); (refine tk 11 34 rfl rfl (v := ?_) ?_ ?_; rotate_left 1; (focus (intro w hSw; (try dsimp only at hSw); go_simp; (try with_reducible rfl); done)); all_goals (try simp only [Act.put, List.setIfInBounds_toArray, List.set_cons_zero, List.set_cons_succ])); (refine tk 12 35 rfl rfl (v := ?_) ?_ ?_; rotate_left 1; (focus (intro w hSw; (try dsimp only at hSw); go_simp; (try with_reducible rfl); done)); all_goals (try simp only [Act.put, List.setIfInBounds_toArray, List.set_cons_zero, List.set_cons_succ])))
    (refine wpAnyH_ready (rs := [13]) (by kernel_rfl) (by simp) ?_; refine AllReadyH.cons rfl (fun K hK => ?_) AllReadyH.nil; go_simp; (go_at_call 166; refine (l4Find_eq HB.out _ (SR.out.grow (And.left (by assumption))) (SK.out.grow (And.left (by assumption))) (SV.out.grow (And.left (by assumption))) (by omega) (by omega) HRI.out).mono ?_; rintro e w5 ⟨P5, l5, c5, rfl, hl5, hb5⟩); refine hK.out _ _ (by exact Grow.both (by repeat (with_reducible first | exact Grow.refl _ | assumption | refine Grow.drew ?_ | refine Grow.alloc ?_ _ | refine Grow.set ?_ (by first | exact Nat.le_refl _ | (simp; done) | (simp; omega) | omega) _ | exact And.left (by assumption) | refine Grow.trans ?_ (by assumption)))) (fun hHeld => ?_); clear hK K; (try refine held_put 36 rfl ?_); (try simp only [Act.put, List.setIfInBounds_toArray, List.set_cons_zero, List.set_cons_succ]))
    obtain ⟨gX, _⟩ : Grow w2 w5 ∧ Same w2 w5 := by assumption
    ((refine tk 14 37 rfl rfl (v := ?_) ?_ ?_; rotate_left 1; (focus (intro w hSw; (try dsimp only at hSw); go_simp; (try with_reducible rfl); done)); all_goals (try simp only [Act.put, List.setIfInBounds_toArray, List.set_cons_zero, List.set_cons_succ])))
    (refine held_take (i := 15) 38 (v := (.bool b)) rfl rfl (by kernel_rfl) (by kernel_rfl) (by kernel_rfl) (fun _ _ _ h => h) (by kernel_rfl) ?_ (by assumption) ?_; (focus (intro w hSw; (try dsimp only at hSw); go_simp; (simpa using hl5))); all_goals (try simp only [Act.put, List.setIfInBounds_toArray, List.set_cons_zero, List.set_cons_succ]))
    ((refine tk 16 39 rfl rfl (v := ?_) ?_ ?_; rotate_left 1; (focus (intro w hSw; (try dsimp only at hSw); go_simp; (try with_reducible rfl); done)); all_goals (try simp only [Act.put, List.setIfInBounds_toArray, List.set_cons_zero, List.set_cons_succ])))
    ((refine tk 17 8 rfl rfl (v := ?_) ?_ ?_; rotate_left 1; (focus (intro w hSw; (try dsimp only at hSw); go_simp; (try with_reducible rfl); done)); all_goals (try simp only [Act.put, List.setIfInBounds_toArray, List.set_cons_zero, List.set_cons_succ])))
    refine wpAnyH_done (by kernel_rfl) ?_ _
    go_wp2
    go_ret
    exact ⟨ret_bool hf.out.symm, g02.trans gX⟩
end Go.Proofs.YtjeilgogjoidjaaGreat
