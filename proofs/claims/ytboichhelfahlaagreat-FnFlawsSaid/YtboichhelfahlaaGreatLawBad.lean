import Derived.Test.YtboichhelfahlaaGreatBundle
/-! Why a flaw is told, in plain terms; and the law's look for a row. -/
namespace Go.Proofs.YtboichhelfahlaaGreat
open Go.RowKit
set_option linter.unusedVariables false
set_option linter.unusedSimpArgs false
/-- Column k may not be null, and is. -/
def nullAt (t : Table) (vals : List Val) (k : Nat) : Bool := match t.cols[k]?, vals[k]? with | some c, some v => c.notNull && v.kind == 0 | _, _ => false
def dupB (s : List Table) (db : List Data) (i : Int) (vals : List Val) (cols : List Int) : Bool := kKn cols vals && decide (1 < (findV s db i cols (kOf cols vals)).length)
def missB (s : List Table) (db : List Data) (vals : List Val) (f : Fk) : Bool := kKn f.cols vals && decide ((findV s db (tableAtV s f.table) (tabAt s (tableAtV s f.table)).key (kOf f.cols vals)).length = 0)
def badB (s : List Table) (db : List Data) (i : Int) (t : Table) (kind : Int) (vals : List Val) : Bool :=
  kind == 1 && (List.range t.cols.length).any (nullAt t vals) || (kind == 2 && t.checks.any (chkV vals) || (kind == 3 && (keysOf t).any (dupB s db i vals) || kind == 4 && t.fks.any (missB s db vals)))
theorem two_len {α : Type} {l : List α} {a b : α} (ha : a ∈ l) (hb : b ∈ l) (hab : a ≠ b) : 1 < l.length := by
  match l, ha, hb with
  | [], ha, _ => simp at ha
  | [c], ha, hb => simp at ha hb; exact absurd (ha.trans hb.symm) hab
  | _ :: _ :: _, _, _ => simp
theorem sameV_refl (a : List Val) : sameV a a = true := by
  simp only [sameV, decide_true, Bool.true_and, allIx, List.all_eq_true, List.mem_range]
  intro i hi
  rw [List.getElem?_eq_getElem hi]
  simp [sameP, List.getElem?_eq_getElem hi, eqV]
theorem kKn_of {t : Table} {vals : List Val} {cols : List Int} (ht : tableOkB t = true) (hf : fitB t.cols vals = true) (hc : colsB cols t.cols.length = true) : kKn cols vals = knownV cols vals ∧ kOf cols vals = keyV cols vals := by
  have hk := keyOf_in ht hf hc
  simp [kKn, kOf, hk]
theorem bad_of {s : List Table} {db : List Data} (h : dbOkB s db = true) {i : Nat} {d : Data} {t : Table} {r : Row} (hd : db[i]? = some d) (ht : s[i]? = some t) (hr : r ∈ d.rows) {x : Flaw} (hx : x ∈ flawR s db true i t d.rows r) :
    badB s db i t x.kind r.vals = true := by
  obtain ⟨hT, hR⟩ := tab_in h hd ht
  have hf := row_fit hR hr
  have hvl := fit_len hf
  unfold badB
  rcases mem_flawR.mp hx with ⟨h1, rfl⟩ | ⟨h1, rfl⟩ | ⟨h1, rfl⟩ | ⟨h1, rfl⟩
  · obtain ⟨k, v, hv, hk⟩ := allIx_not h1
    have hkl := (List.getElem?_eq_some_iff.mp hv).1
    have hkc : k < t.cols.length := by omega
    have : (List.range t.cols.length).any (nullAt t r.vals) = true := by
      rw [List.any_eq_true]
      refine ⟨k, List.mem_range.mpr hkc, ?_⟩
      simp only [noNullP, List.getElem?_eq_getElem hkc] at hk
      simp only [nullAt, List.getElem?_eq_getElem hkc, hv]
      simp at hk ⊢
      exact hk
    simp [this]
  · have : t.checks.any (chkV r.vals) = true := by simpa [checkedB] using h1
    simp [this]
  · have : (keysOf t).any (dupB s db i r.vals) = true := by
      obtain ⟨z, hz⟩ := List.exists_mem_of_ne_nil _ h1
      unfold rivalV at hz
      obtain ⟨r', hr', -⟩ := List.mem_map.mp hz
      obtain ⟨hm, hp⟩ := List.mem_filter.mp hr'
      simp only [rivalP, Bool.and_eq_true, decide_eq_true_eq, List.any_eq_true] at hp
      obtain ⟨hne, cols, hcm, hq⟩ := hp
      simp only [rivP, Bool.and_eq_true] at hq
      rw [List.any_eq_true]
      have hcb := key_in hT cols hcm
      obtain ⟨e1, e2⟩ := kKn_of hT hf hcb
      refine ⟨cols, hcm, ?_⟩
      unfold dupB
      rw [e1, e2, hq.1, findV_eq h hd ht hcb, Bool.true_and, decide_eq_true_eq]
      have hin : ∀ y ∈ d.rows, hasB cols y.vals (keyV cols r.vals) = true → y.id ∈ foundV d.rows cols (keyV cols r.vals) := fun y hy hh => List.mem_map.mpr ⟨y, List.mem_filter.mpr ⟨hy, hh⟩, rfl⟩
      exact two_len (hin r' hm hq.2) (hin r hr (by rw [hasB, hq.1, sameV_refl]; rfl)) hne
    simp [this]
  · have : t.fks.any (missB s db r.vals) = true := by
      unfold lostRow at h1
      rw [List.any_eq_true] at h1 ⊢
      obtain ⟨f, hfm, hl⟩ := h1
      refine ⟨f, hfm, ?_⟩
      simp only [lostP, Bool.true_or, Bool.true_and, lostB, Bool.and_eq_true] at hl
      have hS : schemaOkB s = true := by simp only [dbOkB, Bool.and_eq_true] at h; exact h.1
      have hD : dbB s db = true := by simp only [dbOkB, Bool.and_eq_true] at h; exact h.2
      obtain ⟨g1, q, u, hu, hq, hlen⟩ := schemaOk_fk hS ht hfm
      have hc : colsB f.cols t.cols.length = true := by simp only [fkB, Bool.and_eq_true] at g1; exact g1.1.1.1
      obtain ⟨e1, e2⟩ := kKn_of hT hf hc
      have hql : q < db.length := by rw [db_len hD]; exact (List.getElem?_eq_some_iff.mp hu).1
      have hdq := List.getElem?_eq_getElem hql
      have htab : tabAt s (q : Int) = u := by simp [tabAt, hu]
      have hdat : datAt db (q : Int) = db[q] := by simp [datAt, hdq]
      unfold missB
      rw [hq, htab, hdat] at hl
      rw [e1, e2, hl.1, hq, htab, findV_eq h hdq hu (tableOkB_parts (tab_in h hdq hu).1).1, Bool.true_and, decide_eq_true_eq]
      simpa using hl.2
    simp [this]
/-- The values of the row of that id. -/
def atV (rows : List Row) (id : Int) : List Val := match rows.find? (fun r => r.id == id) with | some r => r.vals | none => []
theorem atV_of {cols : List Col} {rows : List Row} (h : rowsB cols rows = true) {r : Row} (hr : r ∈ rows) : atV rows r.id = r.vals := by
  unfold atV
  cases hf : rows.find? (fun x => x.id == r.id) with
  | none => exact absurd (List.find?_eq_none.mp hf r hr) (by simp)
  | some x =>
    have h1 := List.find?_some hf
    have h2 := List.mem_of_find?_eq_some hf
    have := id_inj h h2 hr (by simpa using h1)
    rw [this]
theorem find_take {rows : List Row} {id : Int} {k : Nat} {r : Row} (hr : rows[k]? = some r) (hn : ∀ y ∈ rows.take k, (y.id == id) = false) (h : (r.id == id) = true) : rows.find? (fun x => x.id == id) = some r := by
  obtain ⟨hk, rfl⟩ := List.getElem?_eq_some_iff.mp hr
  have e : rows.take k ++ rows[k] :: rows.drop (k + 1) = rows := by rw [List.getElem_cons_drop, List.take_append_drop]
  have f := List.find?_append (p := fun x : Row => x.id == id) (xs := rows.take k) (ys := rows[k] :: rows.drop (k + 1))
  rw [e] at f
  rw [f, List.find?_eq_none.mpr (fun y hy => by simp [hn y hy]), Option.none_or]
  exact List.find?_cons_of_pos h
set_option maxHeartbeats 2000000 in
theorem at_any {vs : List Val} {A : Option Addr} {la ca : Nat} {rows : List Row} (id : Int) (hv : atV rows id = vs) (w : World) (h : IsSl Kd.row w (· < w.heap.size) A la ca rows) :
    Calls Tryz.prog 14 #[.agg #[.slice A la ca], .int .i64 id] w (fun e w' => ∃ (B : Option Addr) (n c : Nat), e = .returned (.slice B n c) ∧ Grow w w' ∧ IsSl Kd.val w (· < w.heap.size) B n c vs) := by
  have hlen : la ≤ maxLen := Nat.le_trans h.2.1 h.2.2.1
  unfold maxLen at hlen
  have HV := Lib.hid hv
  have HL := Lib.hid h.1
  clear hv
  go_enter Tryz.func14, Tryz.ntmps14
  go_wp2_with fail
  generalize hW : World.alloc w _ = W
  obtain ⟨gW, sW, kW⟩ := boxed1 hW
  clear hW
  go_loopw [5] (fun i wr => ∃ k : Nat, k ≤ la ∧ i = .int .i64 k ∧ Grow W wr ∧ Hid (∀ y ∈ rows.take k, (y.id == id) = false)) (fun i _ => la - (intOf i).toNat)
  case atStart => exact ⟨0, Nat.zero_le _, rfl, Grow.refl _, Lib.hid (by simp)⟩
  case round =>
    obtain ⟨k, hk, rfl, hg, HN⟩ := hrel
    have t0 := (hg.same _ 0 sW).trans (kW 0)
    have sr := Nat.lt_of_lt_of_le sW hg.size
    by_cases hlt : k < la
    · obtain ⟨b, off, r, Av, Lv, Cv, rfl, hx, hbw, hb, c0, c1, sv, _⟩ := row_at h hlt
      have gwr := gW.trans hg
      have d0 := (gwr.same _ _ hb).trans c0
      have d1 := (gwr.same _ _ hb).trans c1
      have hbr := Nat.lt_of_lt_of_le hb gwr.size
      have i0 : (0 : Int) ≤ (k : Int) := Int.natCast_nonneg k
      have i1 : (k : Int) < (la : Int) := Int.ofNat_lt.mpr hlt
      clear c0 c1
      by_cases hid : r.id = id
      · have e1 : (r.id == id) = true := by simpa using hid
        go_wp2
        go_ret
        refine ⟨_, _, _, rfl, gwr, ?_⟩
        have := HV.out
        unfold atV at this
        rw [find_take hx.out HN.out e1] at this
        rw [← this]; exact sv
      · have e1 : (r.id == id) = false := by simpa using hid
        go_wp2
        go_roundw
        case rel => exact ⟨k + 1, by omega, by go_num, hg, Lib.hid (by
          intro y hy
          obtain ⟨hk', rfl⟩ := List.getElem?_eq_some_iff.mp hx.out
          rw [List.take_succ_eq_append_getElem hk'] at hy
          rcases List.mem_append.mp hy with hy | hy
          · exact HN.out y hy
          · obtain rfl := List.mem_singleton.mp hy; exact e1)⟩
        case measure => simp [intOf]; omega
    · go_wp2
      go_ret
      refine ⟨_, _, _, rfl, gW.trans hg, ?_⟩
      have := HV.out
      unfold atV at this
      have hall : rows.find? (fun x => x.id == id) = none := List.find?_eq_none.mpr (fun y hy => by
        have := HN.out y (by rw [List.take_of_length_le (by have := HL.out; omega)]; exact hy)
        simp [this])
      rw [hall] at this
      rw [← this]
      exact ⟨rfl, Nat.zero_le _, Nat.zero_le _, fun h => absurd h (Nat.lt_irrefl _)⟩
end Go.Proofs.YtboichhelfahlaaGreat
