import Derived.Test.YtonijaniaimgaaaGreatSim
/-! Marks over slices of structs. -/
namespace Go.Proofs.YtonijaniaimgaaaGreat
open Go.RowKit
set_option linter.unusedVariables false
set_option linter.unusedSimpArgs false
theorem markInt64S_mk {B C : Nat} {A : Option Addr} {len cap : Nat} {xs : List Int} (k : Nat) {z : Int} (hz : z = (k : Int)) (w : World) (h : IsSl Kd.int w (InWin B C w) A len cap xs) (hk : k + 6 * cntL cInt xs ≤ 2 ^ 40) :
    Calls Tryz.prog 61 #[.slice A len cap, .int .i64 z] w (MkRes B C k (cntL cInt xs) w) := by
  subst hz
  have hlen : len ≤ maxLen := Nat.le_trans h.2.1 h.2.2.1
  have HX := Lib.hid h.1
  have hcn : len + cSum cInt xs ≤ cntL cInt xs := by rw [cntL, HX.out]; exact Nat.le_refl _
  have hcm : cntL cInt xs ≤ len + cSum cInt xs := by rw [cntL, HX.out]; exact Nat.le_refl _
  unfold maxLen at hlen
  go_enter Tryz.func61, Tryz.ntmps61
  go_wp2
  go_loopw [1, 5] (fun kv iv wr => ∃ i r : Nat, i ≤ len ∧ kv = .int .i64 r ∧ iv = .int .i64 i ∧ k ≤ r ∧ r ≤ k + 6 * (i + cSum cInt (xs.take i)) ∧ MK B C w wr) (fun _ iv _ => len - (intOf iv).toNat)
  case atStart => exact ⟨0, k, Nat.zero_le _, rfl, rfl, Nat.le_refl _, by omega, MK.refl _ _ _⟩
  case round =>
    obtain ⟨i, r, hi, rfl, rfl, hr0, hr1, hM⟩ := hrel
    by_cases hlt : i < len
    · obtain ⟨ys, hs, hmap⟩ := h.mk sims_int hM
      obtain ⟨b, off, x, cs, rfl, hSb, hx, hc, hrc⟩ := hs.elem hlt
      obtain rfl : cs = [.int .i64 x] := hrc
      have c0 := hc 0 (by decide)
      simp only [Kd.int, Nat.mul_one, Nat.add_zero, List.getElem?_cons_zero] at c0
      have hb := cells_lt c0
      have hx := Lib.hid hx
      clear hc
      obtain ⟨u, hu, hcu⟩ := map_at hmap hx.out
      have hct := cSum_take cInt hu
      have hcl := cSum_le cInt xs (i + 1)
      rw [hct] at hcl
      rw [hcu] at hct hcl
      have hbd : r + 6 * (1 + cInt x) ≤ 2 ^ 40 := by omega
      have hend : r + 6 * (1 + cInt x) ≤ k + 6 * (i + 1 + cSum cInt (xs.take (i + 1))) := by rw [hct]; omega
      rw [show cInt x = 0 from rfl] at hbd hend
      clear hu hct hcl hmap hcu
      have hBa : B ≤ wr.heap.size := Nat.le_of_lt (Nat.lt_of_le_of_lt hSb.1.1 hb)
      have hB := hSb.1.1
      have hC := hSb.2
      have i0 : (0 : Int) ≤ (i : Int) := Int.natCast_nonneg i
      have i1 : (i : Int) < (len : Int) := Int.ofNat_lt.mpr hlt
      have M0 := MK.refl B C wr
      have ff := hSb.1.2.2
      go_wp2
      go_roundw
      case rel => exact ⟨i + 1, r + 1, by omega, by first | rfl | go_num, by go_num, by omega, by omega, hM.trans ((M0).put c0 (SimS.int _ _ _) hB hC)⟩
      case measure => simp [intOf]; omega
    · obtain rfl : i = len := by omega
      rw [cSum_done _ (by rw [HX.out]; exact Nat.le_refl _)] at hr1
      go_wp2
      go_ret
      exact ⟨r, rfl, hr0, by omega, hM⟩
theorem markValS_mk {B C : Nat} {A : Option Addr} {len cap : Nat} {xs : List Val} (k : Nat) {z : Int} (hz : z = (k : Int)) (w : World) (h : IsSl Kd.val w (InWin B C w) A len cap xs) (hk : k + 6 * cntL cVal xs ≤ 2 ^ 40) :
    Calls Tryz.prog 123 #[.slice A len cap, .int .i64 z] w (MkRes B C k (cntL cVal xs) w) := by
  subst hz
  have hlen : len ≤ maxLen := Nat.le_trans h.2.1 h.2.2.1
  have HX := Lib.hid h.1
  have hcn : len + cSum cVal xs ≤ cntL cVal xs := by rw [cntL, HX.out]; exact Nat.le_refl _
  have hcm : cntL cVal xs ≤ len + cSum cVal xs := by rw [cntL, HX.out]; exact Nat.le_refl _
  unfold maxLen at hlen
  go_enter Tryz.func123, Tryz.ntmps123
  go_wp2
  go_loopw [1, 5] (fun kv iv wr => ∃ i r : Nat, i ≤ len ∧ kv = .int .i64 r ∧ iv = .int .i64 i ∧ k ≤ r ∧ r ≤ k + 6 * (i + cSum cVal (xs.take i)) ∧ MK B C w wr) (fun _ iv _ => len - (intOf iv).toNat)
  case atStart => exact ⟨0, k, Nat.zero_le _, rfl, rfl, Nat.le_refl _, by omega, MK.refl _ _ _⟩
  case round =>
    obtain ⟨i, r, hi, rfl, rfl, hr0, hr1, hM⟩ := hrel
    by_cases hlt : i < len
    · obtain ⟨ys, hs, hmap⟩ := h.mk sims_val hM
      obtain ⟨b, off, x, rfl, hx, hSb, hb, zs, c0, c1, c2⟩ := val_at hs hlt
      obtain ⟨u, hu, hcu⟩ := map_at hmap hx.out
      have hct := cSum_take cVal hu
      have hcl := cSum_le cVal xs (i + 1)
      rw [hct] at hcl
      rw [hcu] at hct hcl
      have hbd : r + 6 * (1 + cVal x) ≤ 2 ^ 40 := by omega
      have hend : r + 6 * (1 + cVal x) ≤ k + 6 * (i + 1 + cSum cVal (xs.take (i + 1))) := by rw [hct]; omega
      rw [show cVal x = 0 from rfl] at hbd hend
      clear hu hct hcl hmap hcu
      have hBa : B ≤ wr.heap.size := Nat.le_of_lt (Nat.lt_of_le_of_lt hSb.1.1 hb)
      have hB := hSb.1.1
      have hC := hSb.2
      have i0 : (0 : Int) ≤ (i : Int) := Int.natCast_nonneg i
      have i1 : (i : Int) < (len : Int) := Int.ofNat_lt.mpr hlt
      have M0 := MK.refl B C wr
      have ff := hSb.1.2.2
      go_wp2_with fail
      generalize hX : World.setCell _ _ _ = w1
      have M1 : MK B C wr w1 := by rw [← hX]; exact ((M0).put c0 (SimS.int _ _ _) hB hC).put c1 (SimS.int _ _ _) hB hC
      clear hX
      refine (markText_eq (n := r + 2) (by omega) _ (by omega)).mono ?_
      rintro e w2 ⟨rfl, hb2⟩
      have M2 := M1.grow hBa hb2
      replace ff := fun o => (M2.1.2.2.2 b o hb).trans (hSb.1.2.2 o)
      obtain ⟨v2, d2, -⟩ := M2.2 _ _ _ c2
      go_wp2
      go_roundw
      case rel => exact ⟨i + 1, r + 3, by omega, by first | rfl | go_num, by go_num, by omega, by omega, hM.trans ((M2).put c2 (SimS.str _ (markT_size (by omega))) hB hC)⟩
      case measure => simp [intOf]; omega
    · obtain rfl : i = len := by omega
      rw [cSum_done _ (by rw [HX.out]; exact Nat.le_refl _)] at hr1
      go_wp2
      go_ret
      exact ⟨r, rfl, hr0, by omega, hM⟩
theorem sims_tok : Sims Kd.tok cTok := fun w w' S S' cs cs' a hr hs hl hS => by
  obtain ⟨rfl, zv⟩ := hr
  obtain ⟨v0, _, rfl, q0, hl⟩ := hl.cons
  obtain ⟨v1, _, rfl, q1, hl⟩ := hl.cons
  obtain ⟨v2, _, rfl, q2, hl⟩ := hl.cons
  obtain ⟨v3, _, rfl, q3, hl⟩ := hl.cons
  obtain ⟨v4, _, rfl, q4, hl⟩ := hl.cons
  obtain rfl := hl.nil
  obtain ⟨m0, rfl⟩ := q0.int
  obtain ⟨m1, rfl⟩ := q1.int
  obtain ⟨m2, rfl⟩ := q2.int
  obtain ⟨m3, rfl⟩ := q3.int
  obtain ⟨m4, rfl, y4⟩ := q4.str zv
  exact ⟨⟨m0, m1, ⟨m2, m3, m4⟩⟩, ⟨rfl, y4⟩, rfl⟩
theorem markTokS_mk {B C : Nat} {A : Option Addr} {len cap : Nat} {xs : List Tok} (k : Nat) {z : Int} (hz : z = (k : Int)) (w : World) (h : IsSl Kd.tok w (InWin B C w) A len cap xs) (hk : k + 6 * cntL cTok xs ≤ 2 ^ 40) :
    Calls Tryz.prog 122 #[.slice A len cap, .int .i64 z] w (MkRes B C k (cntL cTok xs) w) := by
  subst hz
  have hlen : len ≤ maxLen := Nat.le_trans h.2.1 h.2.2.1
  have HX := Lib.hid h.1
  have hcn : len + cSum cTok xs ≤ cntL cTok xs := by rw [cntL, HX.out]; exact Nat.le_refl _
  have hcm : cntL cTok xs ≤ len + cSum cTok xs := by rw [cntL, HX.out]; exact Nat.le_refl _
  unfold maxLen at hlen
  go_enter Tryz.func122, Tryz.ntmps122
  go_wp2
  go_loopw [1, 5] (fun kv iv wr => ∃ i r : Nat, i ≤ len ∧ kv = .int .i64 r ∧ iv = .int .i64 i ∧ k ≤ r ∧ r ≤ k + 6 * (i + cSum cTok (xs.take i)) ∧ MK B C w wr) (fun _ iv _ => len - (intOf iv).toNat)
  case atStart => exact ⟨0, k, Nat.zero_le _, rfl, rfl, Nat.le_refl _, by omega, MK.refl _ _ _⟩
  case round =>
    obtain ⟨i, r, hi, rfl, rfl, hr0, hr1, hM⟩ := hrel
    by_cases hlt : i < len
    · obtain ⟨ys, hs, hmap⟩ := h.mk sims_tok hM
      obtain ⟨b, off, x, rfl, hx, hSb, hb, zv, c0, c1, c2, c3, c4, hrd⟩ := tok_at hs hlt
      obtain ⟨u, hu, hcu⟩ := map_at hmap hx.out
      have hct := cSum_take cTok hu
      have hcl := cSum_le cTok xs (i + 1)
      rw [hct] at hcl
      rw [hcu] at hct hcl
      have hbd : r + 6 * (1 + cTok x) ≤ 2 ^ 40 := by omega
      have hend : r + 6 * (1 + cTok x) ≤ k + 6 * (i + 1 + cSum cTok (xs.take (i + 1))) := by rw [hct]; omega
      rw [show cTok x = 0 from rfl] at hbd hend
      clear hu hct hcl hmap hcu
      have hBa : B ≤ wr.heap.size := Nat.le_of_lt (Nat.lt_of_le_of_lt hSb.1.1 hb)
      have hB := hSb.1.1
      have hC := hSb.2
      have i0 : (0 : Int) ≤ (i : Int) := Int.natCast_nonneg i
      have i1 : (i : Int) < (len : Int) := Int.ofNat_lt.mpr hlt
      have M0 := MK.refl B C wr
      have ff := hSb.1.2.2
      go_wp2_with fail
      generalize hX : World.setCell _ _ _ = w1
      have M1 : MK B C wr w1 := by rw [← hX]; exact ((((M0).put c0 (SimS.int _ _ _) hB hC).put c1 (SimS.int _ _ _) hB hC).put c2 (SimS.int _ _ _) hB hC).put c3 (SimS.int _ _ _) hB hC
      clear hX
      refine (markText_eq (n := r + 4) (by omega) _ (by omega)).mono ?_
      rintro e w2 ⟨rfl, hb2⟩
      have M2 := M1.grow hBa hb2
      replace ff := fun o => (M2.1.2.2.2 b o hb).trans (hSb.1.2.2 o)
      obtain ⟨v4, d4, -⟩ := M2.2 _ _ _ c4
      go_wp2
      go_roundw
      case rel => exact ⟨i + 1, r + 5, by omega, by first | rfl | go_num, by go_num, by omega, by omega, hM.trans ((M2).put c4 (SimS.str _ (markT_size (by omega))) hB hC)⟩
      case measure => simp [intOf]; omega
    · obtain rfl : i = len := by omega
      rw [cSum_done _ (by rw [HX.out]; exact Nat.le_refl _)] at hr1
      go_wp2
      go_ret
      exact ⟨r, rfl, hr0, by omega, hM⟩
theorem sims_col : Sims Kd.col cCol := fun w w' S S' cs cs' a hr hs hl hS => by
  obtain ⟨rfl, zname, zdflt⟩ := hr
  obtain ⟨v0, _, rfl, q0, hl⟩ := hl.cons
  obtain ⟨v1, _, rfl, q1, hl⟩ := hl.cons
  obtain ⟨v2, _, rfl, q2, hl⟩ := hl.cons
  obtain ⟨v3, _, rfl, q3, hl⟩ := hl.cons
  obtain ⟨v4, _, rfl, q4, hl⟩ := hl.cons
  obtain ⟨v5, _, rfl, q5, hl⟩ := hl.cons
  obtain rfl := hl.nil
  obtain ⟨m0, rfl, y0⟩ := q0.str zname
  obtain ⟨m1, rfl⟩ := q1.int
  obtain ⟨m2, rfl⟩ := q2.bool
  obtain ⟨m3, rfl⟩ := q3.int
  obtain ⟨m4, rfl⟩ := q4.int
  obtain ⟨m5, rfl, y5⟩ := q5.str zdflt
  exact ⟨⟨m0, m1, m2, ⟨m3, m4, m5⟩⟩, ⟨rfl, y0, y5⟩, rfl⟩
theorem markColS_mk {B C : Nat} {A : Option Addr} {len cap : Nat} {xs : List Col} (k : Nat) {z : Int} (hz : z = (k : Int)) (w : World) (h : IsSl Kd.col w (InWin B C w) A len cap xs) (hk : k + 6 * cntL cCol xs ≤ 2 ^ 40) :
    Calls Tryz.prog 60 #[.slice A len cap, .int .i64 z] w (MkRes B C k (cntL cCol xs) w) := by
  subst hz
  have hlen : len ≤ maxLen := Nat.le_trans h.2.1 h.2.2.1
  have HX := Lib.hid h.1
  have hcn : len + cSum cCol xs ≤ cntL cCol xs := by rw [cntL, HX.out]; exact Nat.le_refl _
  have hcm : cntL cCol xs ≤ len + cSum cCol xs := by rw [cntL, HX.out]; exact Nat.le_refl _
  unfold maxLen at hlen
  go_enter Tryz.func60, Tryz.ntmps60
  go_wp2
  go_loopw [1, 5] (fun kv iv wr => ∃ i r : Nat, i ≤ len ∧ kv = .int .i64 r ∧ iv = .int .i64 i ∧ k ≤ r ∧ r ≤ k + 6 * (i + cSum cCol (xs.take i)) ∧ MK B C w wr) (fun _ iv _ => len - (intOf iv).toNat)
  case atStart => exact ⟨0, k, Nat.zero_le _, rfl, rfl, Nat.le_refl _, by omega, MK.refl _ _ _⟩
  case round =>
    obtain ⟨i, r, hi, rfl, rfl, hr0, hr1, hM⟩ := hrel
    by_cases hlt : i < len
    · obtain ⟨ys, hs, hmap⟩ := h.mk sims_col hM
      obtain ⟨b, off, x, rfl, hx, hSb, hb, zname, zdflt, c0, c1, c2, c3, c4, c5, hrd⟩ := col_at hs hlt
      obtain ⟨u, hu, hcu⟩ := map_at hmap hx.out
      have hct := cSum_take cCol hu
      have hcl := cSum_le cCol xs (i + 1)
      rw [hct] at hcl
      rw [hcu] at hct hcl
      have hbd : r + 6 * (1 + cCol x) ≤ 2 ^ 40 := by omega
      have hend : r + 6 * (1 + cCol x) ≤ k + 6 * (i + 1 + cSum cCol (xs.take (i + 1))) := by rw [hct]; omega
      rw [show cCol x = 0 from rfl] at hbd hend
      clear hu hct hcl hmap hcu
      have hBa : B ≤ wr.heap.size := Nat.le_of_lt (Nat.lt_of_le_of_lt hSb.1.1 hb)
      have hB := hSb.1.1
      have hC := hSb.2
      have i0 : (0 : Int) ≤ (i : Int) := Int.natCast_nonneg i
      have i1 : (i : Int) < (len : Int) := Int.ofNat_lt.mpr hlt
      have M0 := MK.refl B C wr
      have ff := hSb.1.2.2
      go_wp2_with fail
      refine (markText_eq (n := r) (by omega) _ (by omega)).mono ?_
      rintro e w1 ⟨rfl, hb1⟩
      have M1 := M0.grow hBa hb1
      replace ff := fun o => (M1.1.2.2.2 b o hb).trans (hSb.1.2.2 o)
      obtain ⟨v0, d0, -⟩ := M1.2 _ _ _ c0
      obtain ⟨v1, d1, -⟩ := M1.2 _ _ _ c1
      obtain ⟨v2, d2, -⟩ := M1.2 _ _ _ c2
      obtain ⟨v3, d3, -⟩ := M1.2 _ _ _ c3
      obtain ⟨v4, d4, -⟩ := M1.2 _ _ _ c4
      obtain ⟨v5, d5, -⟩ := M1.2 _ _ _ c5
      go_wp2_with fail
      generalize hX : World.setCell _ _ _ = w2
      have M2 : MK B C wr w2 := by rw [← hX]; exact (((((M1).put c0 (SimS.str _ (markT_size (by omega))) hB hC).put c1 (SimS.int _ _ _) hB hC).put c2 (SimS.bool _ _) hB hC).put c3 (SimS.int _ _ _) hB hC).put c4 (SimS.int _ _ _) hB hC
      clear hX d0 d1 d2 d3 d4 d5
      refine (markText_eq (n := r + 5) (by omega) _ (by omega)).mono ?_
      rintro e w3 ⟨rfl, hb3⟩
      have M3 := M2.grow hBa hb3
      replace ff := fun o => (M3.1.2.2.2 b o hb).trans (hSb.1.2.2 o)
      obtain ⟨v5, d5, -⟩ := M3.2 _ _ _ c5
      go_wp2
      go_roundw
      case rel => exact ⟨i + 1, r + 6, by omega, by first | rfl | go_num, by go_num, by omega, by omega, hM.trans ((M3).put c5 (SimS.str _ (markT_size (by omega))) hB hC)⟩
      case measure => simp [intOf]; omega
    · obtain rfl : i = len := by omega
      rw [cSum_done _ (by rw [HX.out]; exact Nat.le_refl _)] at hr1
      go_wp2
      go_ret
      exact ⟨r, rfl, hr0, by omega, hM⟩
theorem sims_unique : Sims Kd.unique cUnique := fun w w' S S' cs cs' a hr hs hl hS => by
  obtain ⟨Acols, Lcols, Ccols, rfl, scols⟩ := hr
  obtain ⟨v0, _, rfl, q0, hl⟩ := hl.cons
  obtain rfl := hl.nil
  obtain rfl := q0.slice
  obtain ⟨lcols, tcols, ecols⟩ := scols.sim sims_int hs hS
  exact ⟨⟨lcols⟩, ⟨Acols, Lcols, Ccols, rfl, tcols⟩, by simp only [cUnique, cntL_map ecols]⟩
theorem markUniqueS_mk {B C : Nat} {A : Option Addr} {len cap : Nat} {xs : List Unique} (k : Nat) {z : Int} (hz : z = (k : Int)) (w : World) (h : IsSl Kd.unique w (InWin B C w) A len cap xs) (hk : k + 6 * cntL cUnique xs ≤ 2 ^ 40) :
    Calls Tryz.prog 62 #[.slice A len cap, .int .i64 z] w (MkRes B C k (cntL cUnique xs) w) := by
  subst hz
  have hlen : len ≤ maxLen := Nat.le_trans h.2.1 h.2.2.1
  have HX := Lib.hid h.1
  have hcn : len + cSum cUnique xs ≤ cntL cUnique xs := by rw [cntL, HX.out]; exact Nat.le_refl _
  have hcm : cntL cUnique xs ≤ len + cSum cUnique xs := by rw [cntL, HX.out]; exact Nat.le_refl _
  unfold maxLen at hlen
  go_enter Tryz.func62, Tryz.ntmps62
  go_wp2
  go_loopw [1, 5] (fun kv iv wr => ∃ i r : Nat, i ≤ len ∧ kv = .int .i64 r ∧ iv = .int .i64 i ∧ k ≤ r ∧ r ≤ k + 6 * (i + cSum cUnique (xs.take i)) ∧ MK B C w wr) (fun _ iv _ => len - (intOf iv).toNat)
  case atStart => exact ⟨0, k, Nat.zero_le _, rfl, rfl, Nat.le_refl _, by omega, MK.refl _ _ _⟩
  case round =>
    obtain ⟨i, r, hi, rfl, rfl, hr0, hr1, hM⟩ := hrel
    by_cases hlt : i < len
    · obtain ⟨ys, hs, hmap⟩ := h.mk sims_unique hM
      obtain ⟨b, off, x, Acols, Lcols, Ccols, rfl, hx, hSb, hb, c0, scols, hrd⟩ := unique_at hs hlt
      obtain ⟨u, hu, hcu⟩ := map_at hmap hx.out
      have hct := cSum_take cUnique hu
      have hcl := cSum_le cUnique xs (i + 1)
      rw [hct] at hcl
      rw [hcu] at hct hcl
      have hbd : r + 6 * (1 + cUnique x) ≤ 2 ^ 40 := by omega
      have hend : r + 6 * (1 + cUnique x) ≤ k + 6 * (i + 1 + cSum cUnique (xs.take (i + 1))) := by rw [hct]; omega
      rw [show cUnique x = cntL cInt x.cols from rfl] at hbd hend
      clear hu hct hcl hmap hcu
      have hBa : B ≤ wr.heap.size := Nat.le_of_lt (Nat.lt_of_le_of_lt hSb.1.1 hb)
      have hB := hSb.1.1
      have hC := hSb.2
      have i0 : (0 : Int) ≤ (i : Int) := Int.natCast_nonneg i
      have i1 : (i : Int) < (len : Int) := Int.ofNat_lt.mpr hlt
      have M0 := MK.refl B C wr
      have ff := hSb.1.2.2
      go_wp2_with fail
      obtain ⟨y1, is1, es1⟩ := scols.mk sims_int M0
      refine (markInt64S_mk (r) (by omega) _ is1 (by rw [cntL_map es1]; omega)).mono ?_
      rintro e w1 ⟨r1, rfl, lo1, hi1, N1⟩
      rw [cntL_map es1] at hi1
      have M1 := M0.trans N1
      clear es1 is1
      replace ff := fun o => (M1.1.2.2.2 b o hb).trans (hSb.1.2.2 o)
      go_wp2
      go_roundw
      case rel => exact ⟨i + 1, r1, by omega, by first | rfl | go_num, by go_num, by omega, by omega, hM.trans (M1)⟩
      case measure => simp [intOf]; omega
    · obtain rfl : i = len := by omega
      rw [cSum_done _ (by rw [HX.out]; exact Nat.le_refl _)] at hr1
      go_wp2
      go_ret
      exact ⟨r, rfl, hr0, by omega, hM⟩
theorem sims_check : Sims Kd.check cCheck := fun w w' S S' cs cs' a hr hs hl hS => by
  obtain ⟨Aexpr, Lexpr, Cexpr, rfl, sexpr⟩ := hr
  obtain ⟨v0, _, rfl, q0, hl⟩ := hl.cons
  obtain rfl := hl.nil
  obtain rfl := q0.slice
  obtain ⟨lexpr, texpr, eexpr⟩ := sexpr.sim sims_tok hs hS
  exact ⟨⟨lexpr⟩, ⟨Aexpr, Lexpr, Cexpr, rfl, texpr⟩, by simp only [cCheck, cntL_map eexpr]⟩
theorem markCheckS_mk {B C : Nat} {A : Option Addr} {len cap : Nat} {xs : List Check} (k : Nat) {z : Int} (hz : z = (k : Int)) (w : World) (h : IsSl Kd.check w (InWin B C w) A len cap xs) (hk : k + 6 * cntL cCheck xs ≤ 2 ^ 40) :
    Calls Tryz.prog 63 #[.slice A len cap, .int .i64 z] w (MkRes B C k (cntL cCheck xs) w) := by
  subst hz
  have hlen : len ≤ maxLen := Nat.le_trans h.2.1 h.2.2.1
  have HX := Lib.hid h.1
  have hcn : len + cSum cCheck xs ≤ cntL cCheck xs := by rw [cntL, HX.out]; exact Nat.le_refl _
  have hcm : cntL cCheck xs ≤ len + cSum cCheck xs := by rw [cntL, HX.out]; exact Nat.le_refl _
  unfold maxLen at hlen
  go_enter Tryz.func63, Tryz.ntmps63
  go_wp2
  go_loopw [1, 5] (fun kv iv wr => ∃ i r : Nat, i ≤ len ∧ kv = .int .i64 r ∧ iv = .int .i64 i ∧ k ≤ r ∧ r ≤ k + 6 * (i + cSum cCheck (xs.take i)) ∧ MK B C w wr) (fun _ iv _ => len - (intOf iv).toNat)
  case atStart => exact ⟨0, k, Nat.zero_le _, rfl, rfl, Nat.le_refl _, by omega, MK.refl _ _ _⟩
  case round =>
    obtain ⟨i, r, hi, rfl, rfl, hr0, hr1, hM⟩ := hrel
    by_cases hlt : i < len
    · obtain ⟨ys, hs, hmap⟩ := h.mk sims_check hM
      obtain ⟨b, off, x, Aexpr, Lexpr, Cexpr, rfl, hx, hSb, hb, c0, sexpr, hrd⟩ := check_at hs hlt
      obtain ⟨u, hu, hcu⟩ := map_at hmap hx.out
      have hct := cSum_take cCheck hu
      have hcl := cSum_le cCheck xs (i + 1)
      rw [hct] at hcl
      rw [hcu] at hct hcl
      have hbd : r + 6 * (1 + cCheck x) ≤ 2 ^ 40 := by omega
      have hend : r + 6 * (1 + cCheck x) ≤ k + 6 * (i + 1 + cSum cCheck (xs.take (i + 1))) := by rw [hct]; omega
      rw [show cCheck x = cntL cTok x.expr from rfl] at hbd hend
      clear hu hct hcl hmap hcu
      have hBa : B ≤ wr.heap.size := Nat.le_of_lt (Nat.lt_of_le_of_lt hSb.1.1 hb)
      have hB := hSb.1.1
      have hC := hSb.2
      have i0 : (0 : Int) ≤ (i : Int) := Int.natCast_nonneg i
      have i1 : (i : Int) < (len : Int) := Int.ofNat_lt.mpr hlt
      have M0 := MK.refl B C wr
      have ff := hSb.1.2.2
      go_wp2_with fail
      obtain ⟨y1, is1, es1⟩ := sexpr.mk sims_tok M0
      refine (markTokS_mk (r) (by omega) _ is1 (by rw [cntL_map es1]; omega)).mono ?_
      rintro e w1 ⟨r1, rfl, lo1, hi1, N1⟩
      rw [cntL_map es1] at hi1
      have M1 := M0.trans N1
      clear es1 is1
      replace ff := fun o => (M1.1.2.2.2 b o hb).trans (hSb.1.2.2 o)
      go_wp2
      go_roundw
      case rel => exact ⟨i + 1, r1, by omega, by first | rfl | go_num, by go_num, by omega, by omega, hM.trans (M1)⟩
      case measure => simp [intOf]; omega
    · obtain rfl : i = len := by omega
      rw [cSum_done _ (by rw [HX.out]; exact Nat.le_refl _)] at hr1
      go_wp2
      go_ret
      exact ⟨r, rfl, hr0, by omega, hM⟩
theorem sims_fk : Sims Kd.fk cFk := fun w w' S S' cs cs' a hr hs hl hS => by
  obtain ⟨Acols, Lcols, Ccols, rfl, ztable, scols⟩ := hr
  obtain ⟨v0, _, rfl, q0, hl⟩ := hl.cons
  obtain ⟨v1, _, rfl, q1, hl⟩ := hl.cons
  obtain ⟨v2, _, rfl, q2, hl⟩ := hl.cons
  obtain ⟨v3, _, rfl, q3, hl⟩ := hl.cons
  obtain ⟨v4, _, rfl, q4, hl⟩ := hl.cons
  obtain rfl := hl.nil
  obtain rfl := q0.slice
  obtain ⟨lcols, tcols, ecols⟩ := scols.sim sims_int hs hS
  obtain ⟨m1, rfl, y1⟩ := q1.str ztable
  obtain ⟨m2, rfl⟩ := q2.int
  obtain ⟨m3, rfl⟩ := q3.int
  obtain ⟨m4, rfl⟩ := q4.bool
  exact ⟨⟨lcols, m1, m2, m3, m4⟩, ⟨Acols, Lcols, Ccols, rfl, y1, tcols⟩, by simp only [cFk, cntL_map ecols]⟩
theorem markFkS_mk {B C : Nat} {A : Option Addr} {len cap : Nat} {xs : List Fk} (k : Nat) {z : Int} (hz : z = (k : Int)) (w : World) (h : IsSl Kd.fk w (InWin B C w) A len cap xs) (hk : k + 6 * cntL cFk xs ≤ 2 ^ 40) :
    Calls Tryz.prog 64 #[.slice A len cap, .int .i64 z] w (MkRes B C k (cntL cFk xs) w) := by
  subst hz
  have hlen : len ≤ maxLen := Nat.le_trans h.2.1 h.2.2.1
  have HX := Lib.hid h.1
  have hcn : len + cSum cFk xs ≤ cntL cFk xs := by rw [cntL, HX.out]; exact Nat.le_refl _
  have hcm : cntL cFk xs ≤ len + cSum cFk xs := by rw [cntL, HX.out]; exact Nat.le_refl _
  unfold maxLen at hlen
  go_enter Tryz.func64, Tryz.ntmps64
  go_wp2
  go_loopw [1, 5] (fun kv iv wr => ∃ i r : Nat, i ≤ len ∧ kv = .int .i64 r ∧ iv = .int .i64 i ∧ k ≤ r ∧ r ≤ k + 6 * (i + cSum cFk (xs.take i)) ∧ MK B C w wr) (fun _ iv _ => len - (intOf iv).toNat)
  case atStart => exact ⟨0, k, Nat.zero_le _, rfl, rfl, Nat.le_refl _, by omega, MK.refl _ _ _⟩
  case round =>
    obtain ⟨i, r, hi, rfl, rfl, hr0, hr1, hM⟩ := hrel
    by_cases hlt : i < len
    · obtain ⟨ys, hs, hmap⟩ := h.mk sims_fk hM
      obtain ⟨b, off, x, Acols, Lcols, Ccols, rfl, hx, hSb, hb, ztable, c0, c1, c2, c3, c4, scols, hrd⟩ := fk_at hs hlt
      obtain ⟨u, hu, hcu⟩ := map_at hmap hx.out
      have hct := cSum_take cFk hu
      have hcl := cSum_le cFk xs (i + 1)
      rw [hct] at hcl
      rw [hcu] at hct hcl
      have hbd : r + 6 * (1 + cFk x) ≤ 2 ^ 40 := by omega
      have hend : r + 6 * (1 + cFk x) ≤ k + 6 * (i + 1 + cSum cFk (xs.take (i + 1))) := by rw [hct]; omega
      rw [show cFk x = cntL cInt x.cols from rfl] at hbd hend
      clear hu hct hcl hmap hcu
      have hBa : B ≤ wr.heap.size := Nat.le_of_lt (Nat.lt_of_le_of_lt hSb.1.1 hb)
      have hB := hSb.1.1
      have hC := hSb.2
      have i0 : (0 : Int) ≤ (i : Int) := Int.natCast_nonneg i
      have i1 : (i : Int) < (len : Int) := Int.ofNat_lt.mpr hlt
      have M0 := MK.refl B C wr
      have ff := hSb.1.2.2
      go_wp2_with fail
      obtain ⟨y1, is1, es1⟩ := scols.mk sims_int M0
      refine (markInt64S_mk (r) (by omega) _ is1 (by rw [cntL_map es1]; omega)).mono ?_
      rintro e w1 ⟨r1, rfl, lo1, hi1, N1⟩
      rw [cntL_map es1] at hi1
      have M1 := M0.trans N1
      clear es1 is1
      replace ff := fun o => (M1.1.2.2.2 b o hb).trans (hSb.1.2.2 o)
      obtain ⟨v1, d1, -⟩ := M1.2 _ _ _ c1
      obtain ⟨v2, d2, -⟩ := M1.2 _ _ _ c2
      obtain ⟨v3, d3, -⟩ := M1.2 _ _ _ c3
      obtain ⟨v4, d4, -⟩ := M1.2 _ _ _ c4
      go_wp2_with fail
      clear d1 d2 d3 d4
      refine (markText_eq (n := r1) (by omega) _ (by omega)).mono ?_
      rintro e w2 ⟨rfl, hb2⟩
      have M2 := M1.grow hBa hb2
      replace ff := fun o => (M2.1.2.2.2 b o hb).trans (hSb.1.2.2 o)
      obtain ⟨v1, d1, -⟩ := M2.2 _ _ _ c1
      obtain ⟨v2, d2, -⟩ := M2.2 _ _ _ c2
      obtain ⟨v3, d3, -⟩ := M2.2 _ _ _ c3
      obtain ⟨v4, d4, -⟩ := M2.2 _ _ _ c4
      go_wp2
      go_roundw
      case rel => exact ⟨i + 1, r1 + 4, by omega, by first | rfl | go_num, by go_num, by omega, by omega, hM.trans (((((M2).put c1 (SimS.str _ (markT_size (by omega))) hB hC).put c2 (SimS.int _ _ _) hB hC).put c3 (SimS.int _ _ _) hB hC).put c4 (SimS.bool _ _) hB hC)⟩
      case measure => simp [intOf]; omega
    · obtain rfl : i = len := by omega
      rw [cSum_done _ (by rw [HX.out]; exact Nat.le_refl _)] at hr1
      go_wp2
      go_ret
      exact ⟨r, rfl, hr0, by omega, hM⟩
theorem sims_table : Sims Kd.table cTable := fun w w' S S' cs cs' a hr hs hl hS => by
  obtain ⟨Acols, Lcols, Ccols, Akey, Lkey, Ckey, Auniques, Luniques, Cuniques, Achecks, Lchecks, Cchecks, Afks, Lfks, Cfks, rfl, zname, scols, skey, suniques, schecks, sfks⟩ := hr
  obtain ⟨v0, _, rfl, q0, hl⟩ := hl.cons
  obtain ⟨v1, _, rfl, q1, hl⟩ := hl.cons
  obtain ⟨v2, _, rfl, q2, hl⟩ := hl.cons
  obtain ⟨v3, _, rfl, q3, hl⟩ := hl.cons
  obtain ⟨v4, _, rfl, q4, hl⟩ := hl.cons
  obtain ⟨v5, _, rfl, q5, hl⟩ := hl.cons
  obtain rfl := hl.nil
  obtain ⟨m0, rfl, y0⟩ := q0.str zname
  obtain rfl := q1.slice
  obtain ⟨lcols, tcols, ecols⟩ := scols.sim sims_col hs hS
  obtain rfl := q2.slice
  obtain ⟨lkey, tkey, ekey⟩ := skey.sim sims_int hs hS
  obtain rfl := q3.slice
  obtain ⟨luniques, tuniques, euniques⟩ := suniques.sim sims_unique hs hS
  obtain rfl := q4.slice
  obtain ⟨lchecks, tchecks, echecks⟩ := schecks.sim sims_check hs hS
  obtain rfl := q5.slice
  obtain ⟨lfks, tfks, efks⟩ := sfks.sim sims_fk hs hS
  exact ⟨⟨m0, lcols, lkey, luniques, lchecks, lfks⟩, ⟨Acols, Lcols, Ccols, Akey, Lkey, Ckey, Auniques, Luniques, Cuniques, Achecks, Lchecks, Cchecks, Afks, Lfks, Cfks, rfl, y0, tcols, tkey, tuniques, tchecks, tfks⟩, by simp only [cTable, cntL_map ecols, cntL_map ekey, cntL_map euniques, cntL_map echecks, cntL_map efks]⟩
theorem markTableS_mk {B C : Nat} {A : Option Addr} {len cap : Nat} {xs : List Table} (k : Nat) {z : Int} (hz : z = (k : Int)) (w : World) (h : IsSl Kd.table w (InWin B C w) A len cap xs) (hk : k + 6 * cntL cTable xs ≤ 2 ^ 40) :
    Calls Tryz.prog 25 #[.slice A len cap, .int .i64 z] w (MkRes B C k (cntL cTable xs) w) := by
  subst hz
  have hlen : len ≤ maxLen := Nat.le_trans h.2.1 h.2.2.1
  have HX := Lib.hid h.1
  have hcn : len + cSum cTable xs ≤ cntL cTable xs := by rw [cntL, HX.out]; exact Nat.le_refl _
  have hcm : cntL cTable xs ≤ len + cSum cTable xs := by rw [cntL, HX.out]; exact Nat.le_refl _
  unfold maxLen at hlen
  go_enter Tryz.func25, Tryz.ntmps25
  go_wp2
  go_loopw [1, 5] (fun kv iv wr => ∃ i r : Nat, i ≤ len ∧ kv = .int .i64 r ∧ iv = .int .i64 i ∧ k ≤ r ∧ r ≤ k + 6 * (i + cSum cTable (xs.take i)) ∧ MK B C w wr) (fun _ iv _ => len - (intOf iv).toNat)
  case atStart => exact ⟨0, k, Nat.zero_le _, rfl, rfl, Nat.le_refl _, by omega, MK.refl _ _ _⟩
  case round =>
    obtain ⟨i, r, hi, rfl, rfl, hr0, hr1, hM⟩ := hrel
    by_cases hlt : i < len
    · obtain ⟨ys, hs, hmap⟩ := h.mk sims_table hM
      obtain ⟨b, off, x, Acols, Lcols, Ccols, Akey, Lkey, Ckey, Auniques, Luniques, Cuniques, Achecks, Lchecks, Cchecks, Afks, Lfks, Cfks, rfl, hx, hSb, hb, zname, c0, c1, c2, c3, c4, c5, scols, skey, suniques, schecks, sfks, hrd⟩ := table_at hs hlt
      obtain ⟨u, hu, hcu⟩ := map_at hmap hx.out
      have hct := cSum_take cTable hu
      have hcl := cSum_le cTable xs (i + 1)
      rw [hct] at hcl
      rw [hcu] at hct hcl
      have hbd : r + 6 * (1 + cTable x) ≤ 2 ^ 40 := by omega
      have hend : r + 6 * (1 + cTable x) ≤ k + 6 * (i + 1 + cSum cTable (xs.take (i + 1))) := by rw [hct]; omega
      rw [show cTable x = cntL cCol x.cols + cntL cInt x.key + cntL cUnique x.uniques + cntL cCheck x.checks + cntL cFk x.fks from rfl] at hbd hend
      clear hu hct hcl hmap hcu
      have hBa : B ≤ wr.heap.size := Nat.le_of_lt (Nat.lt_of_le_of_lt hSb.1.1 hb)
      have hB := hSb.1.1
      have hC := hSb.2
      have i0 : (0 : Int) ≤ (i : Int) := Int.natCast_nonneg i
      have i1 : (i : Int) < (len : Int) := Int.ofNat_lt.mpr hlt
      have M0 := MK.refl B C wr
      have ff := hSb.1.2.2
      go_wp2_with fail
      refine (markText_eq (n := r) (by omega) _ (by omega)).mono ?_
      rintro e w1 ⟨rfl, hb1⟩
      have M1 := M0.grow hBa hb1
      replace ff := fun o => (M1.1.2.2.2 b o hb).trans (hSb.1.2.2 o)
      obtain ⟨v0, d0, -⟩ := M1.2 _ _ _ c0
      have d1 := M1.2.slice c1
      have d2 := M1.2.slice c2
      have d3 := M1.2.slice c3
      have d4 := M1.2.slice c4
      have d5 := M1.2.slice c5
      go_wp2_with fail
      generalize hX : World.setCell _ _ _ = w2
      have M2 : MK B C wr w2 := by rw [← hX]; exact (M1).put c0 (SimS.str _ (markT_size (by omega))) hB hC
      clear hX d0 d1 d2 d3 d4 d5
      obtain ⟨y3, is3, es3⟩ := scols.mk sims_col M2
      refine (markColS_mk (r + 1) (by omega) _ is3 (by rw [cntL_map es3]; omega)).mono ?_
      rintro e w3 ⟨r3, rfl, lo3, hi3, N3⟩
      rw [cntL_map es3] at hi3
      have M3 := M2.trans N3
      clear es3 is3
      replace ff := fun o => (M3.1.2.2.2 b o hb).trans (hSb.1.2.2 o)
      have d2 := M3.2.slice c2
      have d3 := M3.2.slice c3
      have d4 := M3.2.slice c4
      have d5 := M3.2.slice c5
      go_wp2_with fail
      clear d2 d3 d4 d5
      obtain ⟨y4, is4, es4⟩ := skey.mk sims_int M3
      refine (markInt64S_mk (r3) (by omega) _ is4 (by rw [cntL_map es4]; omega)).mono ?_
      rintro e w4 ⟨r4, rfl, lo4, hi4, N4⟩
      rw [cntL_map es4] at hi4
      have M4 := M3.trans N4
      clear es4 is4
      replace ff := fun o => (M4.1.2.2.2 b o hb).trans (hSb.1.2.2 o)
      have d3 := M4.2.slice c3
      have d4 := M4.2.slice c4
      have d5 := M4.2.slice c5
      go_wp2_with fail
      clear d3 d4 d5
      obtain ⟨y5, is5, es5⟩ := suniques.mk sims_unique M4
      refine (markUniqueS_mk (r4) (by omega) _ is5 (by rw [cntL_map es5]; omega)).mono ?_
      rintro e w5 ⟨r5, rfl, lo5, hi5, N5⟩
      rw [cntL_map es5] at hi5
      have M5 := M4.trans N5
      clear es5 is5
      replace ff := fun o => (M5.1.2.2.2 b o hb).trans (hSb.1.2.2 o)
      have d4 := M5.2.slice c4
      have d5 := M5.2.slice c5
      go_wp2_with fail
      clear d4 d5
      obtain ⟨y6, is6, es6⟩ := schecks.mk sims_check M5
      refine (markCheckS_mk (r5) (by omega) _ is6 (by rw [cntL_map es6]; omega)).mono ?_
      rintro e w6 ⟨r6, rfl, lo6, hi6, N6⟩
      rw [cntL_map es6] at hi6
      have M6 := M5.trans N6
      clear es6 is6
      replace ff := fun o => (M6.1.2.2.2 b o hb).trans (hSb.1.2.2 o)
      have d5 := M6.2.slice c5
      go_wp2_with fail
      clear d5
      obtain ⟨y7, is7, es7⟩ := sfks.mk sims_fk M6
      refine (markFkS_mk (r6) (by omega) _ is7 (by rw [cntL_map es7]; omega)).mono ?_
      rintro e w7 ⟨r7, rfl, lo7, hi7, N7⟩
      rw [cntL_map es7] at hi7
      have M7 := M6.trans N7
      clear es7 is7
      replace ff := fun o => (M7.1.2.2.2 b o hb).trans (hSb.1.2.2 o)
      go_wp2
      go_roundw
      case rel => exact ⟨i + 1, r7, by omega, by first | rfl | go_num, by go_num, by omega, by omega, hM.trans (M7)⟩
      case measure => simp [intOf]; omega
    · obtain rfl : i = len := by omega
      rw [cSum_done _ (by rw [HX.out]; exact Nat.le_refl _)] at hr1
      go_wp2
      go_ret
      exact ⟨r, rfl, hr0, by omega, hM⟩
theorem sims_row : Sims Kd.row cRow := fun w w' S S' cs cs' a hr hs hl hS => by
  obtain ⟨Avals, Lvals, Cvals, rfl, svals⟩ := hr
  obtain ⟨v0, _, rfl, q0, hl⟩ := hl.cons
  obtain ⟨v1, _, rfl, q1, hl⟩ := hl.cons
  obtain rfl := hl.nil
  obtain ⟨m0, rfl⟩ := q0.int
  obtain rfl := q1.slice
  obtain ⟨lvals, tvals, evals⟩ := svals.sim sims_val hs hS
  exact ⟨⟨m0, lvals⟩, ⟨Avals, Lvals, Cvals, rfl, tvals⟩, by simp only [cRow, cntL_map evals]⟩
theorem markRowS_mk {B C : Nat} {A : Option Addr} {len cap : Nat} {xs : List Row} (k : Nat) {z : Int} (hz : z = (k : Int)) (w : World) (h : IsSl Kd.row w (InWin B C w) A len cap xs) (hk : k + 6 * cntL cRow xs ≤ 2 ^ 40) :
    Calls Tryz.prog 65 #[.slice A len cap, .int .i64 z] w (MkRes B C k (cntL cRow xs) w) := by
  subst hz
  have hlen : len ≤ maxLen := Nat.le_trans h.2.1 h.2.2.1
  have HX := Lib.hid h.1
  have hcn : len + cSum cRow xs ≤ cntL cRow xs := by rw [cntL, HX.out]; exact Nat.le_refl _
  have hcm : cntL cRow xs ≤ len + cSum cRow xs := by rw [cntL, HX.out]; exact Nat.le_refl _
  unfold maxLen at hlen
  go_enter Tryz.func65, Tryz.ntmps65
  go_wp2
  go_loopw [1, 5] (fun kv iv wr => ∃ i r : Nat, i ≤ len ∧ kv = .int .i64 r ∧ iv = .int .i64 i ∧ k ≤ r ∧ r ≤ k + 6 * (i + cSum cRow (xs.take i)) ∧ MK B C w wr) (fun _ iv _ => len - (intOf iv).toNat)
  case atStart => exact ⟨0, k, Nat.zero_le _, rfl, rfl, Nat.le_refl _, by omega, MK.refl _ _ _⟩
  case round =>
    obtain ⟨i, r, hi, rfl, rfl, hr0, hr1, hM⟩ := hrel
    by_cases hlt : i < len
    · obtain ⟨ys, hs, hmap⟩ := h.mk sims_row hM
      obtain ⟨b, off, x, Avals, Lvals, Cvals, rfl, hx, hSb, hb, c0, c1, svals, hrd⟩ := row_at hs hlt
      obtain ⟨u, hu, hcu⟩ := map_at hmap hx.out
      have hct := cSum_take cRow hu
      have hcl := cSum_le cRow xs (i + 1)
      rw [hct] at hcl
      rw [hcu] at hct hcl
      have hbd : r + 6 * (1 + cRow x) ≤ 2 ^ 40 := by omega
      have hend : r + 6 * (1 + cRow x) ≤ k + 6 * (i + 1 + cSum cRow (xs.take (i + 1))) := by rw [hct]; omega
      rw [show cRow x = cntL cVal x.vals from rfl] at hbd hend
      clear hu hct hcl hmap hcu
      have hBa : B ≤ wr.heap.size := Nat.le_of_lt (Nat.lt_of_le_of_lt hSb.1.1 hb)
      have hB := hSb.1.1
      have hC := hSb.2
      have i0 : (0 : Int) ≤ (i : Int) := Int.natCast_nonneg i
      have i1 : (i : Int) < (len : Int) := Int.ofNat_lt.mpr hlt
      have M0 := MK.refl B C wr
      have ff := hSb.1.2.2
      go_wp2_with fail
      generalize hX : World.setCell _ _ _ = w1
      have M1 : MK B C wr w1 := by rw [← hX]; exact (M0).put c0 (SimS.int _ _ _) hB hC
      clear hX
      obtain ⟨y2, is2, es2⟩ := svals.mk sims_val M1
      refine (markValS_mk (r + 1) (by omega) _ is2 (by rw [cntL_map es2]; omega)).mono ?_
      rintro e w2 ⟨r2, rfl, lo2, hi2, N2⟩
      rw [cntL_map es2] at hi2
      have M2 := M1.trans N2
      clear es2 is2
      replace ff := fun o => (M2.1.2.2.2 b o hb).trans (hSb.1.2.2 o)
      go_wp2
      go_roundw
      case rel => exact ⟨i + 1, r2, by omega, by first | rfl | go_num, by go_num, by omega, by omega, hM.trans (M2)⟩
      case measure => simp [intOf]; omega
    · obtain rfl : i = len := by omega
      rw [cSum_done _ (by rw [HX.out]; exact Nat.le_refl _)] at hr1
      go_wp2
      go_ret
      exact ⟨r, rfl, hr0, by omega, hM⟩
theorem sims_data : Sims Kd.data cData := fun w w' S S' cs cs' a hr hs hl hS => by
  obtain ⟨Arows, Lrows, Crows, rfl, srows⟩ := hr
  obtain ⟨v0, _, rfl, q0, hl⟩ := hl.cons
  obtain rfl := hl.nil
  obtain rfl := q0.slice
  obtain ⟨lrows, trows, erows⟩ := srows.sim sims_row hs hS
  exact ⟨⟨lrows⟩, ⟨Arows, Lrows, Crows, rfl, trows⟩, by simp only [cData, cntL_map erows]⟩
theorem markDataS_mk {B C : Nat} {A : Option Addr} {len cap : Nat} {xs : List Data} (k : Nat) {z : Int} (hz : z = (k : Int)) (w : World) (h : IsSl Kd.data w (InWin B C w) A len cap xs) (hk : k + 6 * cntL cData xs ≤ 2 ^ 40) :
    Calls Tryz.prog 26 #[.slice A len cap, .int .i64 z] w (MkRes B C k (cntL cData xs) w) := by
  subst hz
  have hlen : len ≤ maxLen := Nat.le_trans h.2.1 h.2.2.1
  have HX := Lib.hid h.1
  have hcn : len + cSum cData xs ≤ cntL cData xs := by rw [cntL, HX.out]; exact Nat.le_refl _
  have hcm : cntL cData xs ≤ len + cSum cData xs := by rw [cntL, HX.out]; exact Nat.le_refl _
  unfold maxLen at hlen
  go_enter Tryz.func26, Tryz.ntmps26
  go_wp2
  go_loopw [1, 5] (fun kv iv wr => ∃ i r : Nat, i ≤ len ∧ kv = .int .i64 r ∧ iv = .int .i64 i ∧ k ≤ r ∧ r ≤ k + 6 * (i + cSum cData (xs.take i)) ∧ MK B C w wr) (fun _ iv _ => len - (intOf iv).toNat)
  case atStart => exact ⟨0, k, Nat.zero_le _, rfl, rfl, Nat.le_refl _, by omega, MK.refl _ _ _⟩
  case round =>
    obtain ⟨i, r, hi, rfl, rfl, hr0, hr1, hM⟩ := hrel
    by_cases hlt : i < len
    · obtain ⟨ys, hs, hmap⟩ := h.mk sims_data hM
      obtain ⟨b, off, x, Arows, Lrows, Crows, rfl, hx, hSb, hb, c0, srows, hrd⟩ := data_at hs hlt
      obtain ⟨u, hu, hcu⟩ := map_at hmap hx.out
      have hct := cSum_take cData hu
      have hcl := cSum_le cData xs (i + 1)
      rw [hct] at hcl
      rw [hcu] at hct hcl
      have hbd : r + 6 * (1 + cData x) ≤ 2 ^ 40 := by omega
      have hend : r + 6 * (1 + cData x) ≤ k + 6 * (i + 1 + cSum cData (xs.take (i + 1))) := by rw [hct]; omega
      rw [show cData x = cntL cRow x.rows from rfl] at hbd hend
      clear hu hct hcl hmap hcu
      have hBa : B ≤ wr.heap.size := Nat.le_of_lt (Nat.lt_of_le_of_lt hSb.1.1 hb)
      have hB := hSb.1.1
      have hC := hSb.2
      have i0 : (0 : Int) ≤ (i : Int) := Int.natCast_nonneg i
      have i1 : (i : Int) < (len : Int) := Int.ofNat_lt.mpr hlt
      have M0 := MK.refl B C wr
      have ff := hSb.1.2.2
      go_wp2_with fail
      obtain ⟨y1, is1, es1⟩ := srows.mk sims_row M0
      refine (markRowS_mk (r) (by omega) _ is1 (by rw [cntL_map es1]; omega)).mono ?_
      rintro e w1 ⟨r1, rfl, lo1, hi1, N1⟩
      rw [cntL_map es1] at hi1
      have M1 := M0.trans N1
      clear es1 is1
      replace ff := fun o => (M1.1.2.2.2 b o hb).trans (hSb.1.2.2 o)
      go_wp2
      go_roundw
      case rel => exact ⟨i + 1, r1, by omega, by first | rfl | go_num, by go_num, by omega, by omega, hM.trans (M1)⟩
      case measure => simp [intOf]; omega
    · obtain rfl : i = len := by omega
      rw [cSum_done _ (by rw [HX.out]; exact Nat.le_refl _)] at hr1
      go_wp2
      go_ret
      exact ⟨r, rfl, hr0, by omega, hM⟩
end Go.Proofs.YtonijaniaimgaaaGreat
