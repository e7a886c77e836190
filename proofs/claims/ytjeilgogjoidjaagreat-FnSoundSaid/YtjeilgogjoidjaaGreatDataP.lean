import Derived.Test.YtjeilgogjoidjaaGreatRun
import Derived.Test.YtjeilgogjoidjaaGreatKeyOf
import Derived.Test.YtjeilgogjoidjaaGreatSchOk
/-! Databases: which are right, what is found, which flaws there are. Plain facts, no program in sight. -/
namespace Go.Proofs.YtjeilgogjoidjaaGreat
open Go.RowKit
set_option linter.unusedVariables false
set_option linter.unusedSimpArgs false
def fitP (cols : List Col) (i : Nat) (v : Val) : Bool := match cols[i]? with | some c => ofB v c.kind | none => false
def fitB (cols : List Col) (vals : List Val) : Bool := decide (vals.length = cols.length) && allIx (fitP cols) vals
def noNullP (cols : List Col) (i : Nat) (v : Val) : Bool := match cols[i]? with | some c => !(c.notNull && decide (v.kind = 0)) | none => true
def noNullB (cols : List Col) (vals : List Val) : Bool := allIx (noNullP cols) vals
/-- A check that fails. -/
def chkV (vals : List Val) (c : Check) : Bool := decide (trL c.expr vals < 1)
def checkedB (t : Table) (vals : List Val) : Bool := !(t.checks.any (chkV vals))
def rowOkB (t : Table) (vals : List Val) : Bool := tableOkB t && fitB t.cols vals && noNullB t.cols vals && checkedB t vals
def prevId (rows : List Row) (i : Nat) : Int := match rows[i - 1]? with | some r => r.id | none => 0
def rowP (cols : List Col) (rows : List Row) (i : Nat) (r : Row) : Bool := inB r.id 1 1000000000 && !(decide (0 < i) && decide (r.id ≤ prevId rows i)) && fitB cols r.vals
def rowsB (cols : List Col) (rows : List Row) : Bool := decide (rows.length ≤ 60) && allIx (rowP cols rows) rows
def dataP (s : List Table) (i : Nat) (d : Data) : Bool := match s[i]? with | some t => rowsB t.cols d.rows | none => false
def dbB (s : List Table) (db : List Data) : Bool := decide (db.length = s.length) && allIx (dataP s) db
def dbOkB (s : List Table) (db : List Data) : Bool := schemaOkB s && dbB s db
def sameP (b : List Val) (i : Nat) (v : Val) : Bool := match b[i]? with | some u => eqV v u | none => false
def sameV (a b : List Val) : Bool := decide (a.length = b.length) && allIx (sameP b) a
def hasB (cols : List Int) (vals key : List Val) : Bool := knownV cols vals && sameV (keyV cols vals) key
def foundV (rows : List Row) (cols : List Int) (key : List Val) : List Int := (rows.filter fun r => hasB cols r.vals key).map (·.id)
def isTabB (s : List Table) (table : Int) : Bool := inB table 0 (s.length - 1)
def tabAt (s : List Table) (table : Int) : Table := (s[table.toNat]?).getD ⟨⟨#[]⟩, [], [], [], [], []⟩
def datAt (db : List Data) (table : Int) : Data := (db[table.toNat]?).getD ⟨[]⟩
def findB (s : List Table) (db : List Data) (table : Int) (cols : List Int) : Bool := dbOkB s db && isTabB s table && colsB cols (tabAt s table).cols.length
def findV (s : List Table) (db : List Data) (table : Int) (cols : List Int) (key : List Val) : List Int := if findB s db table cols then foundV (datAt db table).rows cols key else []
/-- The lists of columns that name a row. -/
def keysOf (t : Table) : List (List Int) := t.key :: t.uniques.map (·.cols)
def rivP (vals rv : List Val) (cols : List Int) : Bool := knownV cols vals && hasB cols rv (keyV cols vals)
def rivalP (t : Table) (id : Int) (vals : List Val) (r : Row) : Bool := decide (r.id ≠ id) && (keysOf t).any (rivP vals r.vals)
def rivalV (t : Table) (rows : List Row) (id : Int) (vals : List Val) : List Int := (rows.filter (rivalP t id vals)).map (·.id)
def lostB (s : List Table) (db : List Data) (vals : List Val) (f : Fk) : Bool :=
  knownV f.cols vals && (foundV (datAt db (tableAtV s f.table)).rows (tabAt s (tableAtV s f.table)).key (keyV f.cols vals)).isEmpty
def lostP (s : List Table) (db : List Data) (deferred : Bool) (vals : List Val) (f : Fk) : Bool := (deferred || !f.deferred) && lostB s db vals f
def lostRow (s : List Table) (db : List Data) (t : Table) (vals : List Val) (deferred : Bool) : Bool := t.fks.any (lostP s db deferred vals)
def flawIf (b : Bool) (k i id : Int) : List Flaw := if b then [⟨k, i, id⟩] else []
/-- The flaws of a row. -/
def flawR (s : List Table) (db : List Data) (deferred : Bool) (i : Int) (t : Table) (rows : List Row) (r : Row) : List Flaw :=
  flawIf (!noNullB t.cols r.vals) 1 i r.id ++ flawIf (!checkedB t r.vals) 2 i r.id ++ flawIf (!(rivalV t rows r.id r.vals).isEmpty) 3 i r.id ++ flawIf (lostRow s db t r.vals deferred) 4 i r.id
def flawD (s : List Table) (db : List Data) (deferred : Bool) (i : Nat) : List Flaw := match db[i]?, s[i]? with | some d, some t => d.rows.flatMap (flawR s db deferred i t d.rows) | _, _ => []
def flawsV (s : List Table) (db : List Data) (deferred : Bool) : List Flaw := (List.range db.length).flatMap (flawD s db deferred)
/-- What holds of a right schema. -/
theorem schemaOk_at {s : List Table} (h : schemaOkB s = true) {i : Nat} {t : Table} (ht : s[i]? = some t) : tableOkB t = true := by
  simp only [schemaOkB, Bool.and_eq_true] at h
  have := allIx_at h.1.2 ht
  simp only [tabQ, Bool.and_eq_true] at this
  exact this.1
theorem schemaOk_len {s : List Table} (h : schemaOkB s = true) : s.length ≤ 5 := by
  simp only [schemaOkB, Bool.and_eq_true, decide_eq_true_eq] at h
  exact h.1.1
theorem tableOk_cols {t : Table} (h : tableOkB t = true) : 1 ≤ t.cols.length ∧ t.cols.length ≤ 8 := by
  obtain ⟨_, h1, h2, _⟩ := tableOkB_parts h
  exact ⟨h1, h2⟩
theorem fit_len {cols : List Col} {vals : List Val} (h : fitB cols vals = true) : vals.length = cols.length := by
  simp only [fitB, Bool.and_eq_true, decide_eq_true_eq] at h
  exact h.1
theorem fit_ok {cols : List Col} {vals : List Val} (h : fitB cols vals = true) (h8 : cols.length ≤ 8) : okVals vals = true := by
  have hl := fit_len h
  simp only [fitB, Bool.and_eq_true, decide_eq_true_eq] at h
  simp only [okVals, Bool.and_eq_true, decide_eq_true_eq]
  refine ⟨List.all_eq_true.mpr fun v hv => ?_, by omega⟩
  obtain ⟨i, hi, rfl⟩ := List.getElem_of_mem hv
  have := allIx_at h.2 (List.getElem?_eq_getElem hi)
  unfold fitP at this
  split at this
  · simp only [ofB, Bool.and_eq_true] at this; exact this.1
  · cases this
theorem rows_fit {cols : List Col} {rows : List Row} (h : rowsB cols rows = true) {i : Nat} {r : Row} (hr : rows[i]? = some r) : fitB cols r.vals = true := by
  simp only [rowsB, Bool.and_eq_true] at h
  have := allIx_at h.2 hr
  simp only [rowP, Bool.and_eq_true] at this
  exact this.2
theorem rows_id {cols : List Col} {rows : List Row} (h : rowsB cols rows = true) {i : Nat} {r : Row} (hr : rows[i]? = some r) : 1 ≤ r.id ∧ r.id ≤ 1000000000 := by
  simp only [rowsB, Bool.and_eq_true] at h
  have := allIx_at h.2 hr
  simp only [rowP, Bool.and_eq_true, inB, decide_eq_true_eq] at this
  exact this.1.1
theorem db_at {s : List Table} {db : List Data} (h : dbB s db = true) {i : Nat} {d : Data} (hd : db[i]? = some d) : ∃ t, s[i]? = some t ∧ rowsB t.cols d.rows = true := by
  simp only [dbB, Bool.and_eq_true] at h
  have := allIx_at h.2 hd
  unfold dataP at this
  split at this
  · rename_i t ht; exact ⟨t, ht, this⟩
  · cases this
theorem db_len {s : List Table} {db : List Data} (h : dbB s db = true) : db.length = s.length := by
  simp only [dbB, Bool.and_eq_true, decide_eq_true_eq] at h
  exact h.1
end Go.Proofs.YtjeilgogjoidjaaGreat
