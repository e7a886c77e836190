import Derived.Test.YtonijaniaimgaaaGreatDataP
/-! What is found, in plain terms. -/
namespace Go.Proofs.YtonijaniaimgaaaGreat
open Go.RowKit
set_option linter.unusedVariables false
set_option linter.unusedSimpArgs false
theorem ids_rise {cols : List Col} {rows : List Row} (h : rowsB cols rows = true) : ∀ (j i : Nat) (a b : Row), rows[i]? = some a → rows[j]? = some b → i < j → a.id < b.id
  | 0, _, _, _, _, _, hij => absurd hij (Nat.not_lt_zero _)
  | j + 1, i, a, b, ha, hb, hij => by
    have hrow := h
    simp only [rowsB, Bool.and_eq_true] at hrow
    have hp := allIx_at hrow.2 hb
    obtain ⟨hj, rfl⟩ := List.getElem?_eq_some_iff.mp hb
    have hpr : rows[j]? = some rows[j] := List.getElem?_eq_getElem (by omega)
    have hlt : rows[j].id < rows[j + 1].id := by
      simp only [rowP, Bool.and_eq_true, prevId, Nat.add_sub_cancel, hpr] at hp
      have := hp.1.2
      simp at this
      exact this
    rcases Nat.lt_succ_iff_lt_or_eq.mp hij with h1 | rfl
    · exact Int.lt_trans (ids_rise h j i a _ ha hpr h1) hlt
    · rw [hpr] at ha
      cases ha
      exact hlt
theorem id_inj {cols : List Col} {rows : List Row} (h : rowsB cols rows = true) {a b : Row} (ha : a ∈ rows) (hb : b ∈ rows) (hab : a.id = b.id) : a = b := by
  obtain ⟨i, hi, rfl⟩ := List.getElem_of_mem ha
  obtain ⟨j, hj, rfl⟩ := List.getElem_of_mem hb
  rcases Nat.lt_trichotomy i j with h1 | rfl | h1
  · have := ids_rise h j i _ _ (List.getElem?_eq_getElem hi) (List.getElem?_eq_getElem hj) h1; omega
  · rfl
  · have := ids_rise h i j _ _ (List.getElem?_eq_getElem hj) (List.getElem?_eq_getElem hi) h1; omega
theorem found_has {cols : List Col} {rows : List Row} (h : rowsB cols rows = true) {r : Row} (hr : r ∈ rows) (cs : List Int) (key : List Val) : (foundV rows cs key).any (· == r.id) = hasB cs r.vals key := by
  rw [Bool.eq_iff_iff, List.any_eq_true]
  simp only [foundV, List.mem_map, List.mem_filter, beq_iff_eq]
  constructor
  · rintro ⟨x, ⟨r', ⟨hm, hh⟩, rfl⟩, hx⟩
    rw [id_inj h hm hr hx] at hh
    exact hh
  · intro hh
    exact ⟨r.id, ⟨r, ⟨hr, hh⟩, rfl⟩, rfl⟩
theorem isTab_at {s : List Table} {db : List Data} {table : Int} (h : dbOkB s db = true) (h0 : 0 ≤ table) (h1 : table < s.length) : ∃ d t, db[table.toNat]? = some d ∧ s[table.toNat]? = some t ∧ rowsB t.cols d.rows = true ∧ tableOkB t = true := by
  simp only [dbOkB, Bool.and_eq_true] at h
  have hl := db_len h.2
  have hlt : table.toNat < db.length := by omega
  obtain ⟨t, ht, hr⟩ := db_at h.2 (List.getElem?_eq_getElem hlt)
  exact ⟨_, t, List.getElem?_eq_getElem hlt, ht, hr, schemaOk_at h.1 ht⟩
theorem cols_one (c n : Int) : colsB [c] n = inB c 0 (n - 1) := by simp [colsB, allIx, colP]
/-- The law of what is found, in plain terms. -/
theorem find_has {s : List Table} {db : List Data} {table c : Int} {key : List Val} (h : dbOkB s db = true) {d : Data} {t : Table} (h0 : 0 ≤ table) (h1 : table < s.length) (hd : db[table.toNat]? = some d) {r : Row} (hr : r ∈ d.rows) :
    (findV s db table [c] key).any (· == r.id) = (kKn [c] r.vals && sameV (kOf [c] r.vals) key) := by
  obtain ⟨d', t', hd', ht', hrs, htb⟩ := isTab_at h h0 h1
  rw [hd] at hd'
  cases hd'
  obtain ⟨i, hi, rfl⟩ := List.getElem_of_mem hr
  have hfit := rows_fit hrs (List.getElem?_eq_getElem hi)
  have hvl := fit_len hfit
  have hok := fit_ok hfit (tableOk_cols htb).2
  have hT : tabAt s table = t' := by simp [tabAt, ht']
  have hD : datAt db table = d := by simp [datAt, hd]
  have hin : isTabB s table = true := by simp [isTabB, inB]; omega
  have hkb : keyOfB [c] (d.rows[i]).vals = inB c 0 ((t'.cols.length : Int) - 1) := by simp [keyOfB, hok, outP, hvl]
  by_cases hc : inB c 0 ((t'.cols.length : Int) - 1) = true
  · have hf : findB s db table [c] = true := by simp [findB, h, hin, hT, cols_one, hc]
    rw [findV, if_pos hf, hD, found_has hrs hr]
    simp [hasB, kKn, kOf, hkb, hc]
  · have hf : findB s db table [c] = false := by simp [findB, h, hin, hT, cols_one]; simpa using hc
    rw [findV, if_neg (by rw [hf]; decide)]
    rw [Bool.not_eq_true] at hc
    simp [kKn, hkb, hc]
theorem find_none {s : List Table} {db : List Data} {table : Int} {cols : List Int} {key : List Val} (h : dbOkB s db = false ∨ table < 0 ∨ (s.length : Int) ≤ table) : findV s db table cols key = [] := by
  rw [findV, if_neg]
  simp only [findB, Bool.and_eq_true]
  rintro ⟨⟨h1, h2⟩, _⟩
  rcases h with h | h | h
  · rw [h] at h1; cases h1
  · simp [isTabB, inB] at h2; omega
  · simp [isTabB, inB] at h2; omega
/-- A new database: right, and with no flaw. -/
theorem new_ok {s : List Table} (h : schemaOkB s = true) : dbOkB s (List.replicate s.length ⟨[]⟩) = true := by
  have hr : ∀ cols : List Col, rowsB cols [] = true := fun cols => by simp [rowsB, allIx]
  simp only [dbOkB, dbB, h, List.length_replicate, decide_true, Bool.true_and, allIx, List.all_eq_true, List.mem_range]
  intro i hi
  rw [List.getElem?_replicate, if_pos hi]
  simp only [dataP, List.getElem?_eq_getElem hi, hr]
theorem new_flaws {s : List Table} (b : Bool) : flawsV s (List.replicate s.length ⟨[]⟩) b = [] := by
  simp only [flawsV, List.flatMap_eq_nil_iff, List.mem_range, List.length_replicate]
  intro i hi
  simp only [flawD, List.getElem?_replicate, if_pos hi, List.getElem?_eq_getElem hi]
  rfl
end Go.Proofs.YtonijaniaimgaaaGreat
