import Derived.Test.YtjeilgogjoidjaaGreatRefers
import Derived.Test.YtjeilgogjoidjaaGreatBundle
import Derived.Test.YtjeilgogjoidjaaGreatSndA
namespace Go.Proofs.YtjeilgogjoidjaaGreat
open Go.RowKit
set_option linter.unusedVariables false
set_option linter.unusedSimpArgs false
/-! ### RefMem -/
theorem refersV_mem {s : List Table} {name : ByteArray} (hok : schemaOkB s = true) {i : Nat} {t : Table} (ht : s[i]? = some t) : (refersV s name).any (· == (i : Int)) = refT name t := by
  have hi := (List.getElem?_eq_some_iff.mp ht).1
  unfold refersV
  rw [if_pos hok]
  unfold refIx
  rw [Bool.eq_iff_iff, List.any_eq_true]
  constructor
  · rintro ⟨x, hx, hxi⟩
    obtain ⟨j, hj, hx⟩ := List.mem_filterMap.mp hx
    rw [List.mem_range] at hj
    rw [List.getElem?_eq_getElem hj] at hx
    dsimp only at hx
    split at hx
    · rename_i hr
      injection hx with hx
      rw [beq_iff_eq] at hxi
      obtain rfl : j = i := by omega
      rw [List.getElem?_eq_getElem hj] at ht
      cases ht
      exact hr
    · cases hx
  · intro hr
    refine ⟨(i : Int), List.mem_filterMap.mpr ⟨i, List.mem_range.mpr hi, ?_⟩, by simp⟩
    rw [ht]
    dsimp only
    rw [if_pos hr]
/-! ### LawSound -/
theorem sound_iff {s : List Table} {db : List Data} {b : Bool} : soundB s db b = true ↔ dbOkB s db = true ∧ ∀ x, x ∉ flawsV s db b := by
  simp only [soundB, Bool.and_eq_true, List.isEmpty_iff]
  constructor
  · rintro ⟨h1, h2⟩
    exact ⟨h1, fun x hx => by rw [h2] at hx; cases hx⟩
  · rintro ⟨h1, h2⟩
    exact ⟨h1, List.eq_nil_iff_forall_not_mem.mpr h2⟩
theorem lostRow_now {s : List Table} {db : List Data} {t : Table} {vals : List Val} (h : lostRow s db t vals false = true) : lostRow s db t vals true = true := by
  simp only [lostRow, List.any_eq_true] at h ⊢
  obtain ⟨f, hf, h⟩ := h
  refine ⟨f, hf, ?_⟩
  simp only [lostP, Bool.and_eq_true] at h ⊢
  exact ⟨rfl, h.2⟩
theorem sound_now {s : List Table} {db : List Data} (h : soundB s db true = true) : soundB s db false = true := by
  rw [sound_iff] at h ⊢
  refine ⟨h.1, fun x hx => ?_⟩
  obtain ⟨i, d, t, r, hd, ht, hr, hx⟩ := mem_flawsV.mp hx
  refine h.2 x (mem_flawsV.mpr ⟨i, d, t, r, hd, ht, hr, ?_⟩)
  rw [mem_flawR] at hx ⊢
  rcases hx with h | h | h | ⟨h, e⟩
  · exact .inl h
  · exact .inr (.inl h)
  · exact .inr (.inr (.inl h))
  · exact .inr (.inr (.inr ⟨lostRow_now h, e⟩))
theorem rows_tail {cols : List Col} {r0 : Row} {rest : List Row} (h : rowsB cols (r0 :: rest) = true) : rowsB cols rest = true := by
  simp only [rowsB, Bool.and_eq_true, decide_eq_true_eq, List.length_cons] at h ⊢
  refine ⟨by omega, ?_⟩
  simp only [allIx, List.all_eq_true, List.mem_range]
  intro i hi
  rw [List.getElem?_eq_getElem hi]
  have h2 := allIx_at h.2 (k := i + 1) (x := rest[i]) (by simp)
  simp only [rowP, Bool.and_eq_true, Bool.not_eq_true', Bool.and_eq_false_iff, decide_eq_false_iff_not, decide_eq_true_eq] at h2 ⊢
  refine ⟨⟨h2.1.1, ?_⟩, h2.2⟩
  by_cases h0 : 0 < i
  · rcases h2.1.2 with h3 | h3
    · omega
    · refine .inr ?_
      unfold prevId at h3 ⊢
      obtain ⟨j, rfl⟩ : ∃ j, i = j + 1 := ⟨i - 1, by omega⟩
      simpa using h3
  · exact .inl h0
theorem data_setLen {db : List Data} {k : Nat} {d : Data} : (db.set k d).length = db.length := List.length_set
theorem less_ok {s : List Table} {db : List Data} (h : dbOkB s db = true) {k : Nat} {r0 : Row} {rest : List Row} (hd : db[k]? = some ⟨r0 :: rest⟩) : dbOkB s (db.set k ⟨rest⟩) = true := by
  have hk := (List.getElem?_eq_some_iff.mp hd).1
  simp only [dbOkB, Bool.and_eq_true] at h ⊢
  refine ⟨h.1, ?_⟩
  have hl := db_len h.2
  have h2 := h.2
  simp only [dbB, Bool.and_eq_true, decide_eq_true_eq] at h2 ⊢
  refine ⟨by rw [List.length_set]; exact h2.1, ?_⟩
  simp only [allIx, List.all_eq_true, List.mem_range]
  intro j hj
  rw [List.length_set] at hj
  rw [List.getElem?_set]
  by_cases hkj : k = j
  · subst hkj
    rw [if_pos rfl, if_pos hj]
    have h3 := allIx_at h2.2 hd
    dsimp only [dataP] at h3 ⊢
    cases hs : s[k]? with
    | none => rw [hs] at h3; cases h3
    | some t => rw [hs] at h3; exact rows_tail h3
  · rw [if_neg hkj, List.getElem?_eq_getElem hj]
    exact allIx_at h2.2 (List.getElem?_eq_getElem hj)
theorem lost_less {s : List Table} {db : List Data} (h : dbOkB s db = true) {k : Nat} {t : Table} {d : Data} (hk : k < db.length) (ht : s[k]? = some t) (hno : ∀ u ∈ s, refT t.name u = false) {i : Nat} {u : Table} (hu : s[i]? = some u) {vals : List Val}
    (hl : lostRow s (db.set k d) u vals true = true) : lostRow s db u vals true = true := by
  simp only [lostRow, List.any_eq_true] at hl ⊢
  obtain ⟨f, hf, hl⟩ := hl
  refine ⟨f, hf, ?_⟩
  simp only [lostP, Bool.true_or, Bool.true_and] at hl ⊢
  obtain ⟨_, _, q, v, e, hv, he, hq, _⟩ := fkIn_of h hu hf
  have hqk : q ≠ k := by
    rintro rfl
    rw [ht] at hv
    cases hv
    have h1 := hno u (List.mem_of_getElem? hu)
    have h2 : refT t.name u = true := by
      refine List.any_eq_true.mpr ⟨f, hf, ?_⟩
      unfold tableAtV at hq
      rcases idx_cases (tabP1 f.table) s with ⟨h3, _⟩ | ⟨j, x, hx, h3, h4⟩
      · omega
      · obtain rfl : j = q := by omega
        obtain ⟨h5, h6, _⟩ := List.findIdx?_eq_some_iff_getElem.mp h4
        rw [List.getElem?_eq_getElem h5] at ht
        cases ht
        unfold tabP1 at h6
        unfold refP
        rw [beq_iff_eq] at h6 ⊢
        exact h6.symm
    rw [h1] at h2
    cases h2
  have hdat : datAt (db.set k d) (tableAtV s f.table) = datAt db (tableAtV s f.table) := by
    unfold datAt
    rw [hq, Int.toNat_natCast, List.getElem?_set_ne (Ne.symm hqk)]
  unfold lostB at hl ⊢
  rw [hdat] at hl
  exact hl
theorem rival_less {t : Table} {r0 : Row} {rest : List Row} {id : Int} {vals : List Val} (h : rivalV t rest id vals ≠ []) : rivalV t (r0 :: rest) id vals ≠ [] := by
  intro h2
  apply h
  unfold rivalV at h2 ⊢
  rw [List.map_eq_nil_iff, List.filter_eq_nil_iff] at h2 ⊢
  exact fun r hr => h2 r (List.mem_cons_of_mem _ hr)
/-- A sound database without the first row of a table to which nobody refers is sound. -/
theorem less_sound {s : List Table} {db : List Data} {k : Nat} {t : Table} {r0 : Row} {rest : List Row} (h : soundB s db true = true) (ht : s[k]? = some t) (hd : db[k]? = some ⟨r0 :: rest⟩) (hno : refersV s t.name = []) :
    soundB s (db.set k ⟨rest⟩) true = true := by
  have hk := (List.getElem?_eq_some_iff.mp hd).1
  rw [sound_iff] at h ⊢
  have hS : schemaOkB s = true := by have := h.1; simp only [dbOkB, Bool.and_eq_true] at this; exact this.1
  have hno2 : ∀ u ∈ s, refT t.name u = false := fun u hu => by
    obtain ⟨i, hi, rfl⟩ := List.getElem_of_mem hu
    have := refersV_mem hS (name := t.name) (List.getElem?_eq_getElem hi)
    rw [hno] at this
    exact this.symm
  refine ⟨less_ok h.1 hd, fun x hx => ?_⟩
  obtain ⟨i, d, u, r, hd', hu, hr, hx⟩ := mem_flawsV.mp hx
  rw [List.getElem?_set] at hd'
  by_cases hki : k = i
  · subst hki
    rw [if_pos rfl, if_pos hk] at hd'
    cases hd'
    refine h.2 x (mem_flawsV.mpr ⟨k, _, u, r, hd, hu, List.mem_cons_of_mem _ hr, ?_⟩)
    rw [mem_flawR] at hx ⊢
    rcases hx with h1 | h1 | ⟨h1, e⟩ | ⟨h1, e⟩
    · exact .inl h1
    · exact .inr (.inl h1)
    · exact .inr (.inr (.inl ⟨rival_less h1, e⟩))
    · exact .inr (.inr (.inr ⟨lost_less h.1 hk ht hno2 hu h1, e⟩))
  · rw [if_neg hki] at hd'
    refine h.2 x (mem_flawsV.mpr ⟨i, d, u, r, hd', hu, hr, ?_⟩)
    rw [mem_flawR] at hx ⊢
    rcases hx with h1 | h1 | h1 | ⟨h1, e⟩
    · exact .inl h1
    · exact .inr (.inl h1)
    · exact .inr (.inr (.inl h1))
    · exact .inr (.inr (.inr ⟨lost_less h.1 hk ht hno2 hu h1, e⟩))
/-! ### Base -/
theorem isl_gX2 {α : Type} {k : Kd α} {g B : Nat} {w w' : World} {A : Option Addr} {n c : Nat} {xs : List α} (h : IsSl k w (Fresh B w) A n c xs) (hG : GrowX g w w') (hg : g < B) : IsSl k w' (Fresh B w') A n c xs :=
  h.mono (fun b hb => hb.step hG.size (hG.block b hb.2.1 (by have := hb.1; omega))) (fun b hb => hG.block b hb.2.1 (by have := hb.1; omega))
theorem below_nat2 {n y : Int} (hy : RdBelow n y) (hn : 0 < n) : ∃ k : Nat, y = (k : Int) ∧ (k : Int) < n ∧ (0 : Int) ≤ (k : Int) := by
  unfold RdBelow at hy
  exact ⟨y.toNat, by omega, by omega, by omega⟩
/-- The values under way: a slice of one's own. -/
def ValsIn (g V0 : Nat) (A : Option Addr) (n c : Nat) (W w : World) : Prop := ∃ vs : List Val, OwnG Kd.val 50 V0 w A n c vs ∧ GrowX g W w ∧ IsRd w g
theorem ValsIn.next {g V0 n c : Nat} {A : Option Addr} {W w w' : World} (h : ValsIn g V0 A n c W w) (hg : GrowX g w w') (hR : IsRd w' g) (hV : g < V0) : ValsIn g V0 A n c W w' := by
  obtain ⟨vs, own, hG, _⟩ := h
  exact ⟨vs, own.growX hg hV, hG.trans hg, hR⟩
/-- The second value becomes another one. -/
theorem ValsIn.put {g V0 n c p : Nat} {W w : World} (h : ValsIn g V0 (some ⟨p, 0, none⟩) n c W w) (hn : 1 < n) (hV : g < V0) (hW : W.heap.size ≤ V0) (v : Val) (hv : v.s.size ≤ maxLen) :
    ValsIn g V0 (some ⟨p, 0, none⟩) n c W (((w.setCell ⟨p, 3, none⟩ (.int .i64 v.kind)).setCell ⟨p, 4, none⟩ (.int .i64 v.n)).setCell ⟨p, 5, none⟩ (.string v.s)) := by
  obtain ⟨vs, own, hG, hR⟩ := h
  have hb := (own.baseB p rfl)
  obtain ⟨x, hx⟩ : ∃ x, vs[1]? = some x := ⟨_, List.getElem?_eq_getElem (by rw [own.len]; exact hn)⟩
  have o1 := own.put1 (i := 1) (j := 0) hx (by decide) (v := .int .i64 v.kind) (y := ⟨v.kind, x.n, x.s⟩) (fun cs hr => by obtain ⟨rfl, hz⟩ := hr; exact ⟨rfl, hz⟩)
  have hx1 : (vs.set 1 ⟨v.kind, x.n, x.s⟩)[1]? = some ⟨v.kind, x.n, x.s⟩ := by rw [List.getElem?_set_self (List.getElem?_eq_some_iff.mp hx).1]
  have o2 := o1.put1 (i := 1) (j := 1) hx1 (by decide) (v := .int .i64 v.n) (y := ⟨v.kind, v.n, x.s⟩) (fun cs hr => by obtain ⟨rfl, hz⟩ := hr; exact ⟨rfl, hz⟩)
  have hx2 : ((vs.set 1 ⟨v.kind, x.n, x.s⟩).set 1 ⟨v.kind, v.n, x.s⟩)[1]? = some ⟨v.kind, v.n, x.s⟩ := by rw [List.getElem?_set_self (by rw [List.length_set]; exact (List.getElem?_eq_some_iff.mp hx).1)]
  have o3 := o2.put1 (i := 1) (j := 2) hx2 (by decide) (v := .string v.s) (y := v) (fun cs hr => by obtain ⟨rfl, hz⟩ := hr; exact ⟨rfl, hv⟩)
  exact ⟨_, o3, ((hG.put (Nat.le_trans hW hb.1) _).put (Nat.le_trans hW hb.1) _).put (Nat.le_trans hW hb.1) _, ((hR.set (Nat.lt_of_lt_of_le hV hb.1) _).set (Nat.lt_of_lt_of_le hV hb.1) _).set (Nat.lt_of_lt_of_le hV hb.1) _⟩
def BaseRes (g : Nat) (s : List Table) (w : World) (e : Ending) (w' : World) : Prop := ∃ (P : Option Addr) (m c : Nat) (db : List Data), e = .returned (.slice P m c) ∧ IsSl Kd.data w' (Fresh w.heap.size w') P m c db ∧ (dbOkB s db = true ∨ db = []) ∧ GrowX g w w' ∧ IsRd w' g
set_option maxHeartbeats 16000000 in
set_option maxRecDepth 20000 in
theorem base_any (g : Nat) {A : Option Addr} {la ca : Nat} {s : List Table} {most : Int} (w : World) (h : IsRd w g) (hs : IsSl Kd.table w (fun b => b < w.heap.size ∧ b ≠ g) A la ca s) (hn : la ≤ 5) (hb : ∀ t ∈ s, 2 ≤ t.cols.length ∧ t.cols.length ≤ 3) (hm : 1 ≤ most ∧ most ≤ 5) :
    Calls Tryz.prog 34 #[.pointer (some ⟨g, 0, none⟩), .slice A la ca, .int .i64 most] w (BaseRes g s w) := by
  have hgl := h.lt
  have HSX := Lib.hid (show ∀ X, GrowX g w X → IsSl Kd.table X (fun b => b < X.heap.size ∧ b ≠ g) A la ca s from fun X hX => hs.mono (fun b hb => ⟨Nat.lt_of_lt_of_le hb.1 hX.size, hb.2⟩) (fun b hb => hX.block b hb.1 hb.2))
  have HSA := Lib.hid (show ∀ X, GrowX g w X → IsSl Kd.table X (· < X.heap.size) A la ca s from fun X hX => (HSX.out X hX).mono (fun b hb => hb.1) (fun _ _ => rfl))
  have HBT := Lib.hid hb
  have HSL := Lib.hid hs.1
  obtain ⟨q, hq⟩ : ∃ q, schemaOkB s = q := ⟨_, rfl⟩
  have HQ := Lib.hid hq
  clear hs hb hq
  go_enter Tryz.func34, Tryz.ntmps34
  go_wp2_with fail
  refine (sDbNew_any HQ.out w (HSA.out w (GrowX.refl g w))).mono ?_
  rintro e w1 ⟨P1, m1, c1, rfl, d1, g1⟩
  have hR1 := h.of_grow g1
  cases q with
  | false =>
    have hnil : newOf s = [] := by unfold newOf newN; simp [HQ.out]
    rw [hnil] at d1
    have HD1 := Lib.hid d1
    clear d1 hnil
    go_wp2_with fail
    go_loopw [7, 9, 10, 11, 12, 13, 14, 15] (fun dv iv _ _ _ _ _ _ wr => iv = .int .i64 0 ∧ dv = .slice P1 m1 c1 ∧ wr = w1) (fun _ _ _ _ _ _ _ _ _ => 0)
    case atStart => exact ⟨rfl, rfl, rfl⟩
    case round =>
      obtain ⟨rfl, rfl, rfl⟩ := hrel
      go_wp2
      all_goals (go_ret; exact ⟨P1, m1, c1, [], rfl, HD1.out, .inr rfl, GrowX.of g1, hR1⟩)
  | true =>
    have hnew : newOf s = List.replicate s.length ⟨[]⟩ := by unfold newOf newN; simp [HQ.out]
    have HN := Lib.hid (new_ok HQ.out)
    rw [hnew] at d1
    have HD1 := Lib.hid d1
    clear d1 hnew
    go_wp2_with fail
    go_loopw [7, 9, 10, 11, 12, 13, 14, 15] (fun dv iv _ _ _ _ _ _ wr => ∃ (k m c : Nat) (P : Option Addr) (db : List Data), k ≤ la ∧ iv = .int .i64 k ∧ dv = .slice P m c ∧ IsSl Kd.data wr (Fresh w.heap.size wr) P m c db ∧ dbOkB s db = true ∧ GrowX g w wr ∧ IsRd wr g) (fun _ iv _ _ _ _ _ _ _ => la - (intOf iv).toNat)
    case atStart => exact ⟨0, m1, c1, P1, _, Nat.zero_le _, rfl, rfl, HD1.out, HN.out, GrowX.of g1, hR1⟩
    case round =>
      obtain ⟨k, m, c, P, db, hk, rfl, rfl, hd, hok, hG, hR⟩ := hrel
      by_cases hlt : k < la
      · have i0 : (0 : Int) ≤ (k : Int) := Int.natCast_nonneg k
        have i1 : (k : Int) < (la : Int) := Int.ofNat_lt.mpr hlt
        have HD := Lib.hid hd
        have HOK := Lib.hid hok
        clear hd hok HD1
        go_wp2_with fail
        refine (below_any g most _ hR (by omega)).mono ?_
        rintro e w2 ⟨y, rfl, hy, hG2, hR2⟩
        obtain ⟨yn, rfl, y1, y0⟩ := below_nat2 hy (by omega)
        have ey : IntKind.i64.wrap (1 + (yn : Int)) = ((yn + 1 : Nat) : Int) := by rw [IntWalk.i64_in _ (by omega)]; omega
        have HDW := Lib.hid (isl_gX2 HD.out hG2 hgl)
        have GW2 := hG.trans hG2
        clear hy
        go_wp2_with fail
        go_loopw [7, 10, 11, 12, 13, 14, 15] (fun dv kv _ _ _ _ _ wr => ∃ (q m c : Nat) (P : Option Addr) (db : List Data), q ≤ 5 ∧ kv = .int .i64 q ∧ dv = .slice P m c ∧ IsSl Kd.data wr (Fresh w.heap.size wr) P m c db ∧ dbOkB s db = true ∧ GrowX g w wr ∧ IsRd wr g) (fun _ kv _ _ _ _ _ _ => (intOf kv).toNat)
        case atStart => exact ⟨yn + 1, m, c, P, db, by omega, rfl, rfl, HDW.out, HOK.out, GW2, hR2⟩
        case round =>
          obtain ⟨q, m, c, P, db, hq5, rfl, rfl, hd, hok, hG, hR⟩ := hrel
          clear HD HOK HDW
          by_cases hq0 : 0 < q
          · have hq' : (0 : Int) < (q : Int) := by omega
            have hgr : g < wr.heap.size := hR.lt
            obtain ⟨bT, oT, t, T0, p0, d0, T1, p1, d1, T2, p2, d2, T3, p3, d3, T4, p4, d4, rfl, hx, hST, hbT, hnm, e0, e1, e2, e3, e4, e5, _, _, _, _, _, hrd⟩ := table_at (HSX.out wr hG) hlt
            have hne := hST.2
            have htb := HBT.out t (List.mem_of_getElem? hx.out)
            have HRD := Lib.hid hrd
            have hml : m ≤ la ∧ la ≤ m := by
              have h2 : m = la := by
                have h1 := hok
                simp only [dbOkB, Bool.and_eq_true] at h1
                rw [← hd.1, db_len h1.2, HSL.out]
              exact ⟨Nat.le_of_eq h2, Nat.le_of_eq h2.symm⟩
            have hOK := Lib.hid hok
            have HDB := Lib.hid (show ∀ X, GrowX g wr X → IsSl Kd.data X (Fresh w.heap.size X) P m c db from fun X hX => isl_gX2 hd hX hgl)
            have HROW := Lib.hid (show ∀ d ∈ db, ∀ r ∈ d.rows, 0 < r.vals.length from fun d hdm r hr => by
              obtain ⟨i, hi, rfl⟩ := List.getElem_of_mem hdm
              obtain ⟨t', ht', hT', h60, hf⟩ := db_table hok (List.getElem?_eq_getElem hi)
              have := (tableOk_cols hT').1
              rw [fit_len (hf r hr)]; omega)
            have HSM := Lib.hid (db_small hok)
            clear hrd hx hd hok
            go_wp2_with fail
            refine (drawFit_any g wr hR HRD.out (by omega)).mono ?_
            rintro e w3 ⟨A3, n3, c3, vs, rfl, own3, hvl, hG3, hR3⟩
            have hn3 : n3 ≤ t.cols.length ∧ t.cols.length ≤ n3 := by
              have h2 : n3 = t.cols.length := by rw [← own3.len]; exact hvl
              exact ⟨Nat.le_of_eq h2, Nat.le_of_eq h2.symm⟩
            obtain ⟨p, rfl⟩ := own3.there (by omega)
            have VI : ValsIn g wr.heap.size (some ⟨p, 0, none⟩) n3 c3 wr w3 := ⟨vs, own3, hG3, hR3⟩
            clear own3 hvl
            go_upto_region 9 with (fail)
            go_cut [62] (fun bv wx => ∃ bb : Bool, bv = .bool bb ∧ ValsIn g wr.heap.size (some ⟨p, 0, none⟩) n3 c3 wr wx ∧ (bb = true → ∀ d0, db[0]? = some d0 → 0 < d0.rows.length))
            case first =>
              have f0 := (hG3.cell (o := oT + k * 6) hST.1 hne).trans e0
              have hb3 := Nat.lt_of_lt_of_le hST.1 hG3.size
              obtain ⟨bD, oD, dd0, R0, L0, C0, hPa, hx0, hS0, hb0, c00, hr0, _⟩ := data_at (HDB.out w3 hG3) (i := 0) (by clear ey; omega)
              obtain ⟨bD', oD', ddk, Rk, Lk, Ck, hPk, hxk, _, _, ck0, hrk, _⟩ := data_at (HDB.out w3 hG3) (i := k) (by clear ey; omega)
              subst hPa
              simp only [Option.some.injEq, Addr.mk.injEq, and_true] at hPk
              obtain ⟨rfl, rfl⟩ := hPk
              have hm0 : (0 : Int) < (m : Int) := by clear ey; omega
              have hmk : (k : Int) < (m : Int) := by clear ey; omega
              have hDg : bD ≠ g := by have := hS0.1; clear ey; omega
              have L60 : L0 ≤ 60 := by have h1 := (HSM.out.2 dd0 (List.mem_of_getElem? hx0.out)).1; have h2 := hr0.1; clear ey; omega
              have K60 : Lk ≤ 60 := by have h1 := (HSM.out.2 ddk (List.mem_of_getElem? hxk.out)).1; have h2 := hrk.1; clear ey; omega
              simp only [Nat.add_zero] at c00
              have HL0 := Lib.hid (show ∀ d0, db[0]? = some d0 → d0.rows.length = L0 from fun d0 h0 => by rw [Option.some.inj (h0.symm.trans hx0.out)]; exact hr0.1)
              clear hr0 hrk hx0 hxk hS0
              cases hp : (t.name.toList == [112]) with
              | true =>
                go_wp2_with fail
                go_meet
                exact ⟨false, rfl, VI, fun h => by cases h⟩
              | false =>
                by_cases hL0 : L0 = 0
                · subst hL0
                  go_wp2_with fail
                  go_meet
                  exact ⟨false, rfl, VI, fun h => by cases h⟩
                · have hL1 : (0 : Int) < (L0 : Int) := by clear ey; omega
                  go_wp2_with fail
                  refine (once_any g 4 w3 hR3 (by decide) (by decide)).mono ?_
                  rintro e w4 ⟨x, rfl, hG4, hR4⟩
                  have VI4 := VI.next hG4 hR4 hgr
                  go_wp2_with fail
                  go_meet
                  exact ⟨!x, by cases x <;> rfl, VI4, fun _ d0 h0 => by rw [HL0.out d0 h0]; clear ey; omega⟩
            case rest =>
              obtain ⟨bb, rfl, VC, hbb⟩ := hcut
              obtain ⟨w4, hw4⟩ : ∃ x, x = wc := ⟨_, rfl⟩
              subst hw4
              have VI4 := VC
              obtain ⟨vsc, ownc, hGc, hR4⟩ := VC
              clear ownc
              go_upto_if 62 with (fail)
              go_cut [12] (fun _ wx => ValsIn g wr.heap.size (some ⟨p, 0, none⟩) n3 c3 wr wx)
              case first =>
                cases bb with
                | false =>
                  go_wp2_with fail
                  go_meet
                  exact VI4
                | true =>
                  have f4 := (hGc.cell (o := oT + k * 6) hST.1 hne).trans e0
                  have hb4 := Nat.lt_of_lt_of_le hST.1 hGc.size
                  obtain ⟨bD, oD, dd0, R0, L0, C0, hPa, hx0, hS0, hb0, c00, hr0, _⟩ := data_at (HDB.out w4 hGc) (i := 0) (by clear ey; omega)
                  obtain ⟨bD', oD', ddk, Rk, Lk, Ck, hPk, hxk, _, _, ck0, hrk, _⟩ := data_at (HDB.out w4 hGc) (i := k) (by clear ey; omega)
                  subst hPa
                  simp only [Option.some.injEq, Addr.mk.injEq, and_true] at hPk
                  obtain ⟨rfl, rfl⟩ := hPk
                  have hm0 : (0 : Int) < (m : Int) := by clear ey; omega
                  have hmk : (k : Int) < (m : Int) := by clear ey; omega
                  have hDg : bD ≠ g := by have := hS0.1; clear ey; omega
                  have L60 : L0 ≤ 60 := by have h1 := (HSM.out.2 dd0 (List.mem_of_getElem? hx0.out)).1; have h2 := hr0.1; clear ey; omega
                  have K60 : Lk ≤ 60 := by have h1 := (HSM.out.2 ddk (List.mem_of_getElem? hxk.out)).1; have h2 := hrk.1; clear ey; omega
                  simp only [Nat.add_zero] at c00
                  have hL1 : (0 : Int) < (L0 : Int) := by
                    have h1 := hbb rfl dd0 hx0.out
                    rw [hr0.1] at h1
                    exact Int.ofNat_lt.mpr h1
                  have B0 := Lib.hid (HROW.out dd0 (List.mem_of_getElem? hx0.out))
                  have BK := Lib.hid (HROW.out ddk (List.mem_of_getElem? hxk.out))
                  have H04 := Lib.hid hr0
                  have HK4 := Lib.hid hrk
                  clear hr0 hrk hx0 hxk hS0 hbb
                  cases htr : (t.name.toList == [116, 114, 101, 101]) with
                  | false =>
                    go_wp2_with fail
                    refine (below_any g _ w4 hR4 (by clear ey; omega)).mono ?_
                    rintro e w5 ⟨y5, rfl, hy5, hG5, hR5⟩
                    obtain ⟨yr, rfl, z1, z0⟩ := below_nat2 hy5 (by clear ey; omega)
                    have VI5 := VI4.next hG5 hR5 hgr
                    have hyr : yr < L0 := by clear ey; omega
                    obtain ⟨bR, oR, r, Av, Lv, Cv, hRa, hrx, _, hbR, r0, r1, hvals, _⟩ := row_at (isl_gX2 H04.out hG5 hgl) hyr
                    have hLv : 0 < Lv := by
                      have h1 := B0.out r (List.mem_of_getElem? hrx.out)
                      rw [hvals.1] at h1
                      exact h1
                    obtain ⟨bV, oV, v, hVa, _, _, hbV, hvz, v0, v1, v2⟩ := val_at hvals hLv
                    subst hRa
                    subst hVa
                    simp only [Nat.zero_mul, Nat.add_zero] at v0 v1 v2
                    have LV0 : (0 : Int) < (Lv : Int) := by clear ey; omega
                    obtain ⟨vs5, own5, hG05, _⟩ := VI5
                    obtain ⟨bP, oP, x5, hPa, _, hSP, hbP, _, u0, u1, u2⟩ := val_at own5.isSl (i := 1) (by clear ey; omega)
                    simp only [Option.some.injEq, Addr.mk.injEq, and_true] at hPa
                    obtain ⟨rfl, rfl⟩ := hPa
                    have uf := hSP.2.2
                    have VP := Lib.hid (ValsIn.put (p := p) ⟨vs5, own5, hG05, hR5⟩ (by clear ey; omega) hgr (Nat.le_refl _) v hvz)
                    have hn31 : (1 : Int) < (n3 : Int) := by clear ey; omega
                    clear hvals hrx own5
                    go_wp2_with fail
                    go_meet
                    exact VP.out
                  | true =>
                    by_cases hLk : Lk = 0
                    · subst hLk
                      go_wp2_with fail
                      go_meet
                      exact VI4
                    · have hK1 : (0 : Int) < (Lk : Int) := by clear ey; omega
                      go_wp2_with fail
                      refine (below_any g _ w4 hR4 (by clear ey; omega)).mono ?_
                      rintro e w5 ⟨y5, rfl, hy5, hG5, hR5⟩
                      obtain ⟨yr, rfl, z1, z0⟩ := below_nat2 hy5 (by clear ey; omega)
                      have VI5 := VI4.next hG5 hR5 hgr
                      have hyr : yr < Lk := by clear ey; omega
                      obtain ⟨bR, oR, r, Av, Lv, Cv, hRa, hrx, _, hbR, r0, r1, hvals, _⟩ := row_at (isl_gX2 HK4.out hG5 hgl) hyr
                      have hLv : 0 < Lv := by
                        have h1 := BK.out r (List.mem_of_getElem? hrx.out)
                        rw [hvals.1] at h1
                        exact h1
                      obtain ⟨bV, oV, v, hVa, _, _, hbV, hvz, v0, v1, v2⟩ := val_at hvals hLv
                      subst hRa
                      subst hVa
                      simp only [Nat.zero_mul, Nat.add_zero] at v0 v1 v2
                      have LV0 : (0 : Int) < (Lv : Int) := by clear ey; omega
                      obtain ⟨vs5, own5, hG05, _⟩ := VI5
                      obtain ⟨bP, oP, x5, hPa, _, hSP, hbP, _, u0, u1, u2⟩ := val_at own5.isSl (i := 1) (by clear ey; omega)
                      simp only [Option.some.injEq, Addr.mk.injEq, and_true] at hPa
                      obtain ⟨rfl, rfl⟩ := hPa
                      have uf := hSP.2.2
                      have VP := Lib.hid (ValsIn.put (p := p) ⟨vs5, own5, hG05, hR5⟩ (by clear ey; omega) hgr (Nat.le_refl _) v hvz)
                      have hn31 : (1 : Int) < (n3 : Int) := by clear ey; omega
                      clear hvals hrx own5
                      go_wp2_with fail
                      go_meet
                      exact VP.out
              case rest =>
                have hcut0 := Lib.hid hcut
                obtain ⟨w6, hw6⟩ : ∃ x, x = wc := ⟨_, rfl⟩
                subst hw6
                obtain ⟨vsd, ownd, hGd, hRd⟩ := hcut
                clear VI4 hbb hGc hR4 vsc ownd
                go_upto_region 15 with (fail)
                go_cut [107] (fun bv wx => ∃ bb : Bool, bv = .bool bb ∧ wx = w6)
                case first =>
                  have f0 := (hGd.cell (o := oT + k * 6) hST.1 hne).trans e0
                  have hb3 := Nat.lt_of_lt_of_le hST.1 hGd.size
                  obtain ⟨bD, oD, dd0, R0, L0, C0, hPa, hx0, hS0, hb0, c00, hr0, _⟩ := data_at (HDB.out w6 hGd) (i := 0) (by clear ey; omega)
                  obtain ⟨bD', oD', ddk, Rk, Lk, Ck, hPk, hxk, _, _, ck0, hrk, _⟩ := data_at (HDB.out w6 hGd) (i := k) (by clear ey; omega)
                  subst hPa
                  simp only [Option.some.injEq, Addr.mk.injEq, and_true] at hPk
                  obtain ⟨rfl, rfl⟩ := hPk
                  have hm0 : (0 : Int) < (m : Int) := by clear ey; omega
                  have hmk : (k : Int) < (m : Int) := by clear ey; omega
                  have hDg : bD ≠ g := by have := hS0.1; clear ey; omega
                  have L60 : L0 ≤ 60 := by have h1 := (HSM.out.2 dd0 (List.mem_of_getElem? hx0.out)).1; have h2 := hr0.1; clear ey; omega
                  have K60 : Lk ≤ 60 := by have h1 := (HSM.out.2 ddk (List.mem_of_getElem? hxk.out)).1; have h2 := hrk.1; clear ey; omega
                  simp only [Nat.add_zero] at c00
                  clear hr0 hrk hx0 hxk hS0
                  cases htr : (t.name.toList == [116, 114, 101, 101]) with
                  | false =>
                    go_wp2_with fail
                    go_meet
                    exact ⟨false, rfl, rfl⟩
                  | true =>
                    by_cases hLk : Lk = 0
                    · subst hLk
                      go_wp2_with fail
                      go_meet
                      exact ⟨true, rfl, rfl⟩
                    · have hK1 : ((Lk : Int) == 0) = false := by simp; clear ey; omega
                      go_wp2_with fail
                      go_meet
                      exact ⟨false, rfl, rfl⟩
                case rest =>
                  obtain ⟨b2, rfl, rfl⟩ := hcut
                  go_upto_if 107 with (fail)
                  go_cut [] (fun wx => ValsIn g wr.heap.size (some ⟨p, 0, none⟩) n3 c3 wr wx)
                  case first =>
                    cases b2 with
                    | false =>
                      go_wp2_with fail
                      go_meet
                      exact hcut0.out
                    | true =>
                      have hc := hcut0.out
                      obtain ⟨vsd, ownd, hGd, hRd⟩ := hc
                      obtain ⟨bP, oP, x5, hPa, _, hSP, hbP, _, u0, u1, u2⟩ := val_at ownd.isSl (i := 1) (by clear ey; omega)
                      simp only [Option.some.injEq, Addr.mk.injEq, and_true] at hPa
                      obtain ⟨rfl, rfl⟩ := hPa
                      have uf := hSP.2.2
                      have hn31 : (1 : Int) < (n3 : Int) := by clear ey; omega
                      have VP := Lib.hid (ValsIn.put (p := p) hcut0.out (by clear ey; omega) hgr (Nat.le_refl _) ⟨0, 0, ⟨#[]⟩⟩ (Nat.zero_le _))
                      clear ownd
                      go_wp2_with fail
                      go_meet
                      exact VP.out
                  case rest =>
                    obtain ⟨w7, hw7⟩ : ∃ x, x = wc := ⟨_, rfl⟩
                    subst hw7
                    clear hcut0 hGd hRd
                    obtain ⟨vse, owne, hGe, hRe⟩ := hcut
                    have hFr := Lib.hid (HDB.out _ hGe)
                    have HIN := insertRow_any _ (HSA.out _ (hG.trans hGe)) hFr.out.fresh owne.isSl.fresh hOK.out hlt
                    clear owne
                    go_wp2_with fail
                    refine HIN.mono ?_
                    rintro e w8 ⟨P6, m6, c6, id6, code, db6, rfl, g6, hcode⟩
                    have hR6 := hRe.of_grow g6
                    have G6 := (hG.trans hGe).trans (GrowX.of g6)
                    rcases hcode with hc | ⟨hc, hsl, hok6⟩
                    · have hc2 : (code != 1) = false := by simpa using hc
                      have hF6 := Lib.hid (isl_gX2 hFr.out (GrowX.of g6) hgl)
                      go_wp2
                      go_roundw
                      case rel => exact ⟨q - 1, m, c, P, db, by clear ey; omega, by congr 1; clear ey; omega, rfl, hF6.out, hOK.out, G6, hR6⟩
                      case measure => simp [intOf]; clear ey; omega
                    · have hc2 : (code != 1) = true := by simpa using hc
                      have hF6 := Lib.hid (hsl.lower (hG.trans hGe).size)
                      go_wp2
                      go_roundw
                      case rel => exact ⟨q - 1, m6, c6, P6, db6, by clear ey; omega, by congr 1; clear ey; omega, rfl, hF6.out, hok6, G6, hR6⟩
                      case measure => simp [intOf]; clear ey; omega
          · obtain rfl : q = 0 := by omega
            go_wp2
            go_roundw
            case rel => exact ⟨k + 1, m, c, P, db, by omega, by go_num, rfl, hd, hok, hG, hR⟩
            case measure => simp [intOf]; omega
      · obtain rfl : k = la := by omega
        go_wp2
        go_ret
        exact ⟨P, m, c, db, rfl, hd, .inl hok, hG, hR⟩
/-! ### SoundL -/
theorem isl_apart2 {α : Type} {k : Kd α} {g B : Nat} {w : World} {A : Option Addr} {n c : Nat} {xs : List α} (h : IsSl k w (Fresh B w) A n c xs) (hg : g < B) : IsSl k w (fun b => b < w.heap.size ∧ b ≠ g) A n c xs :=
  h.mono (fun b hb => ⟨hb.2.1, by have := hb.1; omega⟩) (fun _ _ => rfl)
/-- Tables and rows of one's own are handed back. -/
def SndDrawn (w : World) (e : Ending) (w' : World) : Prop := ∃ (A B : Option Addr) (n c m d : Nat) (s : List Table) (db : List Data), e = .returned (.tuple #[.slice A n c, .slice B m d]) ∧
  IsSl Kd.table w' (Fresh w.heap.size w') A n c s ∧ IsSl Kd.data w' (Fresh w.heap.size w') B m d db ∧ 1 ≤ n ∧ n ≤ 3 ∧ Grow w w'
theorem drawSound_any {A : Option Addr} {len cap : Nat} {xs : List Int} (w : World) (h : IsSl Kd.byte w (· < w.heap.size) A len cap xs) :
    Calls Tryz.prog 10 #[.slice A len cap] w (SndDrawn w) := by
  go_enter Tryz.func10, Tryz.ntmps10
  go_wp2_with fail
  refine (l1Open_any w h).mono ?_
  rintro e w1 ⟨g, rfl, hg, hG1, hR1⟩
  have hgl := hR1.lt
  go_wp2_with fail
  refine (schema_any g _ hR1).mono ?_
  rintro e w2 ⟨A2, n2, c2, s2, rfl, own2, h1, h3, hb, hG2, hR2⟩
  go_wp2_with fail
  refine (once_any g 3 _ hR2 (by decide) (by decide)).mono ?_
  rintro e w3 ⟨x, rfl, hG3, hR3⟩
  have own3 := own2.growX hG3 hgl
  have G3 := hG2.trans hG3
  cases x with
  | true =>
    go_wp2_with fail
    refine (raw_any g _ hR3 (isl_apart2 own3.isSl hgl) (by omega) hb).mono ?_
    rintro e w4 ⟨A4, m4, c4, db, rfl, sd, hm, hdb, hG4, hR4⟩
    go_wp2
    go_ret2
    exact ⟨_, A4, n2, c2, m4, c4, s2, db, rfl, ((own3.growX hG4 hgl).low hG1.size).isSl, sd.lower (Nat.le_trans hG1.size G3.size), h1, h3, (G3.trans hG4).grow hG1 hg⟩
  | false =>
    go_wp2_with fail
    refine (base_any g (most := 5) _ hR3 (isl_apart2 own3.isSl hgl) (by omega) hb (by decide)).mono ?_
    rintro e w4 ⟨A4, m4, c4, db, rfl, sd, hdb, hG4, hR4⟩
    go_wp2
    go_ret2
    exact ⟨_, A4, n2, c2, m4, c4, s2, db, rfl, ((own3.growX hG4 hgl).low hG1.size).isSl, sd.lower (Nat.le_trans hG1.size G3.size), h1, h3, (G3.trans hG4).grow hG1 hg⟩
theorem drawSoundNow_any {A : Option Addr} {len cap : Nat} {xs : List Int} (w : World) (h : IsSl Kd.byte w (· < w.heap.size) A len cap xs) :
    Calls Tryz.prog 12 #[.slice A len cap] w (SndDrawn w) := by
  go_enter Tryz.func12, Tryz.ntmps12
  go_wp2_with fail
  refine (drawSound_any w h).mono ?_
  rintro e w1 ⟨A1, B1, n, c, m, d, s, db, rfl, h1⟩
  go_wp2
  go_ret2
  exact ⟨A1, B1, n, c, m, d, s, db, rfl, h1⟩
theorem iSound_q {A B : Option Addr} {la ca lb cb : Nat} {s : List Table} {db : List Data} {q : Bool} (hq : soundB s db true = q) (w : World) (hs : IsSl Kd.table w (· < w.heap.size) A la ca s) (hd : IsSl Kd.data w (· < w.heap.size) B lb cb db) :
    Calls Tryz.prog 11 #[.slice A la ca, .slice B lb cb] w (Ret w (.bool q)) := by subst hq; exact iSound_any w hs hd
theorem sSound_q {A B : Option Addr} {la ca lb cb : Nat} {s : List Table} {db : List Data} {q : Bool} (hq : soundB s db true = q) (w : World) (hs : IsSl Kd.table w (· < w.heap.size) A la ca s) (hd : IsSl Kd.data w (· < w.heap.size) B lb cb db) :
    Calls Tryz.prog 14 #[.slice A la ca, .slice B lb cb] w (Ret w (.bool q)) := by subst hq; exact sSound_any w hs hd
theorem iSoundNow_q {A B : Option Addr} {la ca lb cb : Nat} {s : List Table} {db : List Data} {q : Bool} (hq : soundB s db false = q) (w : World) (hs : IsSl Kd.table w (· < w.heap.size) A la ca s) (hd : IsSl Kd.data w (· < w.heap.size) B lb cb db) :
    Calls Tryz.prog 13 #[.slice A la ca, .slice B lb cb] w (Ret w (.bool q)) := by subst hq; exact iSoundNow_any w hs hd
theorem sSoundNow_q {A B : Option Addr} {la ca lb cb : Nat} {s : List Table} {db : List Data} {q : Bool} (hq : soundB s db false = q) (w : World) (hs : IsSl Kd.table w (· < w.heap.size) A la ca s) (hd : IsSl Kd.data w (· < w.heap.size) B lb cb db) :
    Calls Tryz.prog 15 #[.slice A la ca, .slice B lb cb] w (Ret w (.bool q)) := by subst hq; exact sSoundNow_any w hs hd
set_option maxRecDepth 20000 in
set_option maxHeartbeats 16000000 in
theorem law_FnSound (A : Option Addr) (len cap : Nat) (xs : List Int) {W : World} (h : IsSl Kd.byte W (· < W.heap.size) A len cap xs) (w : World) (hw : w = W) :
    Calls Tryz.prog 3 #[.slice A len cap] w (Ret w (.bool true)) := by
  subst hw
  have hl := Nat.le_trans h.2.1 h.2.2.1
  by_cases hbig : 1048576 < len
  · go_enter Tryz.func3, Tryz.ntmps3
    go_wp2_with fail
    refine (big_yes _ hl hbig).mono ?_
    rintro e w1 ⟨rfl, rfl⟩
    go_wp2
    go_ret
    exact ⟨rfl, Grow.refl _⟩
  go_enter Tryz.func3, Tryz.ntmps3
  go_wp2_with fail
  refine (big_no _ hl hbig).mono ?_
  rintro e w0 ⟨rfl, rfl⟩
  go_wp2_with fail
  refine (drawSound_any _ h).mono ?_
  rintro e w1 ⟨A1, B1, n, c, m, d, s, db, rfl, hs, hd, hn1, hn3, g1⟩
  have HS1 := Lib.hid hs.fresh
  have HD1 := Lib.hid hd.fresh
  obtain ⟨q, hq⟩ : ∃ q, soundB s db true = q := ⟨_, rfl⟩
  have HQ := Lib.hid hq
  clear hs hd hq
  go_wp2_with fail
  refine (iSound_q HQ.out _ HS1.out HD1.out).mono ?_
  rintro e w2 ⟨rfl, g2⟩
  have G2 := g1.trans g2
  go_wp2_with fail
  refine (drawSoundNow_any _ (h.grow G2)).mono ?_
  rintro e w3 ⟨A3, B3, n3, c3, m3, d3, t, ot, rfl, ht, ho, hn31, hn33, g3⟩
  have HT3 := Lib.hid ht.fresh
  have HO3 := Lib.hid ho.fresh
  have G3 := G2.trans g3
  obtain ⟨p, hp⟩ : ∃ q, soundB t ot false = q := ⟨_, rfl⟩
  have HP := Lib.hid hp
  obtain ⟨r, hr⟩ : ∃ q, soundB t ot true = q := ⟨_, rfl⟩
  have HR := Lib.hid hr
  have hpr : r = true → p = true := fun e => by rw [← hp]; exact sound_now (by rw [hr]; exact e)
  clear ht ho hp hr h hl
  go_wp2_with fail
  refine (iSoundNow_q HP.out _ HT3.out HO3.out).mono ?_
  rintro e w4 ⟨rfl, g4⟩
  have G4 := G3.trans g4
  go_wp2_with fail
  refine (sSound_q HQ.out _ (HS1.out.grow (g2.trans (g3.trans g4))) (HD1.out.grow (g2.trans (g3.trans g4)))).mono ?_
  rintro e w5 ⟨rfl, g5⟩
  go_wp2_with fail
  refine (sSoundNow_q HP.out _ (HT3.out.grow (g4.trans g5)) (HO3.out.grow (g4.trans g5))).mono ?_
  rintro e w6 ⟨rfl, g6⟩
  have g36 := g4.trans (g5.trans g6)
  go_wp2_with fail
  refine (iSound_q HR.out _ (HT3.out.grow g36) (HO3.out.grow g36)).mono ?_
  rintro e w7 ⟨rfl, g7⟩
  have G7 := G3.trans (g36.trans g7)
  have HS := Lib.hid (HS1.out.grow (g2.trans (g3.trans (g36.trans g7))))
  have HD := Lib.hid (HD1.out.grow (g2.trans (g3.trans (g36.trans g7))))
  clear HS1 HD1 HT3 HO3 g1 g2 g3 g4 g5 g6 g7 g36 G2 G3 G4
  cases q with
  | false =>
    cases r with
    | false =>
      go_wp2
      go_ret
      exact ⟨rfl, G7⟩
    | true =>
      obtain rfl : p = true := hpr rfl
      go_wp2
      go_ret
      exact ⟨rfl, G7⟩
  | true =>
    have hsd := (sound_iff.mp HQ.out).1
    have hmn : m = n := by
      have h1 := hsd
      simp only [dbOkB, Bool.and_eq_true] at h1
      rw [← HD.out.1, db_len h1.2, HS.out.1]
    have hsm := db_small hsd
    subst hmn
    obtain ⟨j, rfl⟩ : ∃ j, m = j + 1 := ⟨m - 1, by omega⟩
    have ej : IntKind.i64.wrap (((j + 1 : Nat) : Int) - 1) = (j : Int) := by rw [IntWalk.i64_in _ (by omega)]; omega
    have ej2 : ((j + 1 : Nat) : Int) - 1 = (j : Int) := by omega
    have n0 : (((j + 1 : Nat) : Int) == 0) = false := by simp; omega
    have i0 : (0 : Int) ≤ (j : Int) := Int.natCast_nonneg j
    have i1 : (j : Int) < ((j + 1 : Nat) : Int) := by omega
    have hpr2 : (r && !p) = false := by
      cases r with
      | false => rfl
      | true => rw [hpr rfl]; rfl
    obtain ⟨bT, oT, tt, T0, p0, m0, T1, p1, m1, T2, p2, m2, T3, p3, m3', T4, p4, m4, rfl, hx, hST, hbT, hnm, e0, _⟩ := table_at HS.out (i := j) (by omega)
    obtain ⟨bD, oD, dd, R, L, C, rfl, hxd, hSD, hbD, f0, hrows, _⟩ := data_at HD.out (i := j) (by omega)
    have HROWS := Lib.hid hrows
    have HX := Lib.hid hx.out
    have HXD := Lib.hid hxd.out
    have hL60 : L ≤ 60 := by have h1 := (hsm.2 dd (List.mem_of_getElem? hxd.out)).1; have h2 := hrows.1; omega
    have hc3 := hrows.2.1
    have hm5 : j + 1 ≤ 5 := by have h1 := hsm.1; have h2 := HD.out.1; omega
    clear hsm hsd hx hxd hrows hpr
    have w7R : Calls Tryz.prog 16 #[.slice (some ⟨bT, oT, none⟩) (j + 1) c, .string tt.name] w7 (IntsRes (refersV s tt.name) w7) := iRefers_any tt.name w7 HS.out
    cases r with
    | true =>
      obtain rfl : p = true := by simpa using hpr2
      go_wp2_with fail
      refine w7R.mono ?_
      rintro e w8 ⟨P, l, dl, rfl, hl8, g8⟩
      have hll : (refersV s tt.name).length = l := hl8.1
      have f8 := (g8.same bD (oD + j) hbD).trans f0
      have hb8 := Nat.lt_of_lt_of_le hbD g8.size
      have G8 := G7.trans g8
      clear hl8
      by_cases hl0 : l = 0
      rotate_left
      · have hl1 : (0 : Int) < (l : Int) := by omega
        go_wp2
        go_ret
        exact ⟨rfl, G8⟩
      subst hl0
      have HNO : Hid (refersV s tt.name = []) := Lib.hid (List.eq_nil_of_length_eq_zero hll)
      clear hll
      by_cases hL0 : L = 0
      · subst hL0
        go_wp2
        go_ret
        exact ⟨rfl, G8⟩
      have hL1 : ((L : Int) == 0) = false := by simp; omega
      have hL2 : (1 : Int) ≤ (L : Int) := by omega
      have hC1 : (L : Int) ≤ (C : Int) := by omega
      obtain ⟨bR, oR, hRa, _⟩ := HROWS.out.2.2.2 (by omega)
      subst hRa
      obtain ⟨r0, rest, hrr⟩ : ∃ r0 rest, dd.rows = r0 :: rest := by
        have h1 := HROWS.out.1
        cases hd : dd.rows with
        | nil => rw [hd] at h1; simp at h1; omega
        | cons a l => exact ⟨a, l, rfl⟩
      have HLS : Hid (soundB s (db.set j ⟨rest⟩) true = true) := Lib.hid (less_sound HQ.out HX.out (by rw [HXD.out, ← hrr]) HNO.out)
      have HREST : Hid (IsSl Kd.row w8 (· < w8.heap.size) (some ⟨bR, oR + 1 * 2, none⟩) (L - 1) (C - 1) rest) := Lib.hid (by
        have h1 := (HROWS.out.grow g8).drop (d := 1) (by omega)
        rw [hrr] at h1
        exact h1)
      have HD8 := Lib.hid (HD.out.grow g8)
      have HS8 := Lib.hid (HS.out.grow g8)
      clear hrr
      go_upto_region 15 with (at_builtin; refine wpList_appO ones_dataO elem_dataO rfl (.tmp 78) (.tmp 79) (by rfl) (by rfl) (OwnO.made (Nat.le_refl w8.heap.size) (Grow.refl w8)) (by rfl) (HD8.out.mono (S' := (· < w8.heap.size)) (fun b hb => hb) (fun b hb => ((Grow.refl w8).alloc _).block hb)).srcO (q := j + 1) (by omega) (by unfold maxLen; omega) (by omega) (fun A9 c9 w9 ap => ?_))
      have own := ap.own
      rw [List.nil_append] at own
      have g9 := own.grows
      obtain ⟨pp, rfl, hpp, hpl, hpf⟩ := own.there (by omega)
      obtain ⟨b', off', x9, Ar, Lr, Cr, he, hx9, _, hb', u0, _⟩ := data_at own.isSl (i := j) (by omega)
      simp only [Option.some.injEq, Addr.mk.injEq, and_true] at he
      obtain ⟨rfl, rfl⟩ := he
      rw [Nat.zero_add] at u0
      have f9 := (g9.same bD (oD + j) hb8).trans f8
      have hb9 := Nat.lt_of_lt_of_le hb8 g9.size
      have PUT : ∀ (X : Option Addr) (cx : Nat), IsSl Kd.row w8 (· < w8.heap.size) X (L - 1) cx rest → IsSl Kd.data (w9.setCell ⟨pp, j, none⟩ (.slice X (L - 1) cx)) (· < (w9.setCell ⟨pp, j, none⟩ (.slice X (L - 1) cx)).heap.size) (some ⟨pp, 0, none⟩) (j + 1) c9 (db.set j ⟨rest⟩) ∧ Grow w8 (w9.setCell ⟨pp, j, none⟩ (.slice X (L - 1) cx)) := fun X cx hX => by
        have own5 := own.put1 (i := j) (j := 0) hx9.out (by decide) (v := .slice X (L - 1) cx) (y := ⟨rest⟩) (fun cs hr => by
          obtain ⟨_, _, _, rfl, _⟩ := hr
          exact ⟨X, L - 1, cx, rfl, hX.mono (fun b hb => hb) (fun b hb => g9.block hb)⟩)
        rw [show j * Kd.data.n + 0 = j from Nat.mul_one j] at own5
        exact ⟨own5.isSl, own5.grows⟩
      have HPUT := Lib.hid PUT
      clear PUT own ap hx9 f8 hb8
      by_cases hC : C = 1
      · obtain rfl : C = 1 := hC
        obtain rfl : L = 1 := by omega
        have hrn : rest = [] := List.eq_nil_of_length_eq_zero HREST.out.1
        have HN : Hid (∀ X : Option Addr, IsSl Kd.row w8 (· < w8.heap.size) X 0 0 rest) := Lib.hid (fun X => by rw [hrn]; exact ⟨rfl, Nat.le_refl _, Nat.zero_le _, fun h => absurd h (Nat.lt_irrefl _)⟩)
        go_wp2_with fail
        obtain ⟨hdl, gdl⟩ := HPUT.out _ 0 (HN.out _)
        refine (iSound_q HLS.out _ (HS8.out.grow gdl) hdl).mono ?_
        rintro e w11 ⟨rfl, g11⟩
        go_wp2
        go_ret
        exact ⟨rfl, G8.trans (gdl.trans g11)⟩
      · have hC4 : ¬ (C - 1 = 0) := by omega
        go_wp2_with fail
        obtain ⟨hdl, gdl⟩ := HPUT.out _ _ HREST.out
        refine (iSound_q HLS.out _ (HS8.out.grow gdl) hdl).mono ?_
        rintro e w11 ⟨rfl, g11⟩
        go_wp2
        go_ret
        exact ⟨rfl, G8.trans (gdl.trans g11)⟩
    | false =>
      go_wp2_with fail
      refine w7R.mono ?_
      rintro e w8 ⟨P, l, dl, rfl, hl8, g8⟩
      have hll : (refersV s tt.name).length = l := hl8.1
      have f8 := (g8.same bD (oD + j) hbD).trans f0
      have hb8 := Nat.lt_of_lt_of_le hbD g8.size
      have G8 := G7.trans g8
      clear hl8
      by_cases hl0 : l = 0
      rotate_left
      · have hl1 : (0 : Int) < (l : Int) := by omega
        go_wp2
        go_ret
        exact ⟨rfl, G8⟩
      subst hl0
      have HNO : Hid (refersV s tt.name = []) := Lib.hid (List.eq_nil_of_length_eq_zero hll)
      clear hll
      by_cases hL0 : L = 0
      · subst hL0
        go_wp2
        go_ret
        exact ⟨rfl, G8⟩
      have hL1 : ((L : Int) == 0) = false := by simp; omega
      have hL2 : (1 : Int) ≤ (L : Int) := by omega
      have hC1 : (L : Int) ≤ (C : Int) := by omega
      obtain ⟨bR, oR, hRa, _⟩ := HROWS.out.2.2.2 (by omega)
      subst hRa
      obtain ⟨r0, rest, hrr⟩ : ∃ r0 rest, dd.rows = r0 :: rest := by
        have h1 := HROWS.out.1
        cases hd : dd.rows with
        | nil => rw [hd] at h1; simp at h1; omega
        | cons a l => exact ⟨a, l, rfl⟩
      have HLS : Hid (soundB s (db.set j ⟨rest⟩) true = true) := Lib.hid (less_sound HQ.out HX.out (by rw [HXD.out, ← hrr]) HNO.out)
      have HREST : Hid (IsSl Kd.row w8 (· < w8.heap.size) (some ⟨bR, oR + 1 * 2, none⟩) (L - 1) (C - 1) rest) := Lib.hid (by
        have h1 := (HROWS.out.grow g8).drop (d := 1) (by omega)
        rw [hrr] at h1
        exact h1)
      have HD8 := Lib.hid (HD.out.grow g8)
      have HS8 := Lib.hid (HS.out.grow g8)
      clear hrr
      go_upto_region 15 with (at_builtin; refine wpList_appO ones_dataO elem_dataO rfl (.tmp 78) (.tmp 79) (by rfl) (by rfl) (OwnO.made (Nat.le_refl w8.heap.size) (Grow.refl w8)) (by rfl) (HD8.out.mono (S' := (· < w8.heap.size)) (fun b hb => hb) (fun b hb => ((Grow.refl w8).alloc _).block hb)).srcO (q := j + 1) (by omega) (by unfold maxLen; omega) (by omega) (fun A9 c9 w9 ap => ?_))
      have own := ap.own
      rw [List.nil_append] at own
      have g9 := own.grows
      obtain ⟨pp, rfl, hpp, hpl, hpf⟩ := own.there (by omega)
      obtain ⟨b', off', x9, Ar, Lr, Cr, he, hx9, _, hb', u0, _⟩ := data_at own.isSl (i := j) (by omega)
      simp only [Option.some.injEq, Addr.mk.injEq, and_true] at he
      obtain ⟨rfl, rfl⟩ := he
      rw [Nat.zero_add] at u0
      have f9 := (g9.same bD (oD + j) hb8).trans f8
      have hb9 := Nat.lt_of_lt_of_le hb8 g9.size
      have PUT : ∀ (X : Option Addr) (cx : Nat), IsSl Kd.row w8 (· < w8.heap.size) X (L - 1) cx rest → IsSl Kd.data (w9.setCell ⟨pp, j, none⟩ (.slice X (L - 1) cx)) (· < (w9.setCell ⟨pp, j, none⟩ (.slice X (L - 1) cx)).heap.size) (some ⟨pp, 0, none⟩) (j + 1) c9 (db.set j ⟨rest⟩) ∧ Grow w8 (w9.setCell ⟨pp, j, none⟩ (.slice X (L - 1) cx)) := fun X cx hX => by
        have own5 := own.put1 (i := j) (j := 0) hx9.out (by decide) (v := .slice X (L - 1) cx) (y := ⟨rest⟩) (fun cs hr => by
          obtain ⟨_, _, _, rfl, _⟩ := hr
          exact ⟨X, L - 1, cx, rfl, hX.mono (fun b hb => hb) (fun b hb => g9.block hb)⟩)
        rw [show j * Kd.data.n + 0 = j from Nat.mul_one j] at own5
        exact ⟨own5.isSl, own5.grows⟩
      have HPUT := Lib.hid PUT
      clear PUT own ap hx9 f8 hb8
      by_cases hC : C = 1
      · obtain rfl : C = 1 := hC
        obtain rfl : L = 1 := by omega
        have hrn : rest = [] := List.eq_nil_of_length_eq_zero HREST.out.1
        have HN : Hid (∀ X : Option Addr, IsSl Kd.row w8 (· < w8.heap.size) X 0 0 rest) := Lib.hid (fun X => by rw [hrn]; exact ⟨rfl, Nat.le_refl _, Nat.zero_le _, fun h => absurd h (Nat.lt_irrefl _)⟩)
        go_wp2_with fail
        obtain ⟨hdl, gdl⟩ := HPUT.out _ 0 (HN.out _)
        refine (iSound_q HLS.out _ (HS8.out.grow gdl) hdl).mono ?_
        rintro e w11 ⟨rfl, g11⟩
        go_wp2
        go_ret
        exact ⟨rfl, G8.trans (gdl.trans g11)⟩
      · have hC4 : ¬ (C - 1 = 0) := by omega
        go_wp2_with fail
        obtain ⟨hdl, gdl⟩ := HPUT.out _ _ HREST.out
        refine (iSound_q HLS.out _ (HS8.out.grow gdl) hdl).mono ?_
        rintro e w11 ⟨rfl, g11⟩
        go_wp2
        go_ret
        exact ⟨rfl, G8.trans (gdl.trans g11)⟩
end Go.Proofs.YtjeilgogjoidjaaGreat
