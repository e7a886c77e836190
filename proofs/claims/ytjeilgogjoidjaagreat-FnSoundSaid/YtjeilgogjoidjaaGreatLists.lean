import Derived.Test.YtjeilgogjoidjaaGreatFill
/-! The laws' own functions over structs and slices of them: sizes, copies, equality. -/
namespace Go.Proofs.YtjeilgogjoidjaaGreat
open Go.RowKit
set_option linter.unusedVariables false
set_option linter.unusedSimpArgs false

/-- How many elements there are, counted through all that is nested. -/
def cSum {α : Type} (c : α → Nat) (xs : List α) : Nat := (xs.map c).sum
def cntL {α : Type} (c : α → Nat) (xs : List α) : Nat := xs.length + cSum c xs
theorem cSum_take {α : Type} (c : α → Nat) {xs : List α} {k : Nat} {x : α} (hx : xs[k]? = some x) : cSum c (xs.take (k + 1)) = cSum c (xs.take k) + c x := by
  obtain ⟨hk, rfl⟩ := List.getElem?_eq_some_iff.mp hx
  unfold cSum
  rw [List.take_succ_eq_append_getElem hk, List.map_append, List.sum_append]
  simp
theorem cSum_done {α : Type} (c : α → Nat) {xs : List α} {k : Nat} (hk : xs.length ≤ k) : cSum c (xs.take k) = cSum c xs := by rw [List.take_of_length_le hk]
def cInt (_ : Int) : Nat := 0
def cVal (_ : Val) : Nat := 0
theorem cSum_zero {α : Type} (c : α → Nat) (h : ∀ x, c x = 0) (xs : List α) : cSum c xs = 0 := by
  unfold cSum
  induction xs with
  | nil => rfl
  | cons x xs ih => simp [h x] at ih ⊢; exact ih
/-- What a size function leaves: -1, or at most what there was less what it counted, of something small. -/
def SzRes (left : Int) (n : Nat) (P : Prop) (w : World) (e : Ending) (w' : World) : Prop := ∃ r : Int, e = .returned (.int .i64 r) ∧ (r = -1 ∨ (0 ≤ r ∧ r + (n : Int) ≤ left ∧ P)) ∧ Grow w w'
theorem szn_res {left : Int} {n : Nat} (h0 : 0 ≤ left) : szn left n = -1 ∨ (0 ≤ szn left n ∧ szn left n ≤ left) := by unfold szn; split <;> omega
theorem Kd.grow {α : Type} (k : Kd α) {w w' : World} {cs : List Value} {a : α} (h : k.rd w (· < w.heap.size) cs a) (hg : Grow w w') : k.rd w' (· < w'.heap.size) cs a :=
  k.mono h (fun b hb => Nat.lt_of_lt_of_le hb hg.size) fun b hb => hg.block hb
/-- A short list of small things. -/
def SmL {α : Type} (p : α → Prop) (xs : List α) : Prop := xs.length ≤ 1048576 ∧ ∀ x ∈ xs, p x
def smVal (_ : Val) : Prop := True
def smInt (_ : Int) : Prop := True
/-- The first k are small. -/
def SmTo {α : Type} (p : α → Prop) (xs : List α) (k : Nat) : Prop := ∀ j x, j < k → xs[j]? = some x → p x
theorem SmTo.zero {α : Type} (p : α → Prop) (xs : List α) : SmTo p xs 0 := fun j _ h _ => absurd h (Nat.not_lt_zero j)
theorem SmTo.succ {α : Type} {p : α → Prop} {xs : List α} {k : Nat} (h : SmTo p xs k) {x : α} (hx : xs[k]? = some x) (hp : p x) : SmTo p xs (k + 1) := fun j y hj hy => by
  rcases Nat.lt_succ_iff_lt_or_eq.mp hj with h1 | rfl
  · exact h j y h1 hy
  · rw [hx] at hy; cases hy; exact hp
theorem SmTo.done {α : Type} {p : α → Prop} {xs : List α} {k : Nat} (h : SmTo p xs k) (hk : xs.length ≤ k) (hl : xs.length ≤ 1048576) : SmL p xs :=
  ⟨hl, fun x hx => by
    obtain ⟨j, hj, rfl⟩ := List.getElem_of_mem hx
    exact h j _ (by omega) (List.getElem?_eq_getElem hj)⟩
def smTok (x : Tok) : Prop := True
def cTok (x : Tok) : Nat := 0
def smCol (x : Col) : Prop := True
def cCol (x : Col) : Nat := 0
def smUnique (x : Unique) : Prop := SmL smInt x.cols
def cUnique (x : Unique) : Nat := cntL cInt x.cols
def smCheck (x : Check) : Prop := SmL smTok x.expr
def cCheck (x : Check) : Nat := cntL cTok x.expr
def smFk (x : Fk) : Prop := SmL smInt x.cols
def cFk (x : Fk) : Nat := cntL cInt x.cols
def smTable (x : Table) : Prop := SmL smCol x.cols ∧ SmL smInt x.key ∧ SmL smUnique x.uniques ∧ SmL smCheck x.checks ∧ SmL smFk x.fks
def cTable (x : Table) : Nat := cntL cCol x.cols + cntL cInt x.key + cntL cUnique x.uniques + cntL cCheck x.checks + cntL cFk x.fks
def smRow (x : Row) : Prop := SmL smVal x.vals
def cRow (x : Row) : Nat := cntL cVal x.vals
def smData (x : Data) : Prop := SmL smRow x.rows
def cData (x : Data) : Nat := cntL cRow x.rows
/-- Three new blocks of a call. -/
structure Three (w V : World) (c d f : Array Value) (t u v : TypeId) : Prop where
  grow : Grow w V
  s0 : w.heap.size < V.heap.size
  s1 : w.heap.size + 1 < V.heap.size
  s2 : w.heap.size + 1 + 1 < V.heap.size
  b0 : V.heap[w.heap.size]? = some (.cells c t (0, 0))
  b1 : V.heap[w.heap.size + 1]? = some (.cells d u (0, 0))
  b2 : V.heap[w.heap.size + 1 + 1]? = some (.cells f v (0, 0))
theorem Three.of {w W : World} {c d f : Array Value} {t u v : TypeId} (hW : ((w.alloc (.cells c t)).alloc (.cells d u)).alloc (.cells f v) = W) : Three w W c d f t u v := by
  obtain ⟨h0, h1, h2, h3, h4, h5, h6⟩ := boxed3 hW
  exact ⟨h0, h1, h2, h3, h4, h5, h6⟩
theorem Three.call {w V V' : World} {c d f : Array Value} {t u v : TypeId} (h : Three w V c d f t u v) (hg : Grow V V') : Three w V' c d f t u v :=
  ⟨h.grow.trans hg, Nat.lt_of_lt_of_le h.s0 hg.size, Nat.lt_of_lt_of_le h.s1 hg.size, Nat.lt_of_lt_of_le h.s2 hg.size, by rw [hg.block h.s0]; exact h.b0, by rw [hg.block h.s1]; exact h.b1, by rw [hg.block h.s2]; exact h.b2⟩
theorem size_setCell (w : World) (a : Addr) (v : Value) : (w.setCell a v).heap.size = w.heap.size := by simp [World.setCell]
theorem put_own {w : World} {g : Nat} {c : Array Value} {E : TypeId} {fr : Nat × Nat} (h : w.heap[g]? = some (.cells c E fr)) (o : Nat) (x : Value) : (w.setCell ⟨g, o, none⟩ x).heap[g]? = some (.cells (c.setIfInBounds o x) E fr) :=
  setL_own h o [x]
theorem put_other {w : World} {g b : Nat} (hb : b ≠ g) (o : Nat) (x : Value) : (w.setCell ⟨g, o, none⟩ x).heap[b]? = w.heap[b]? := setL_other w g hb o [x]
theorem Three.put {w V : World} {c d f : Array Value} {t u v : TypeId} (h : Three w V c d f t u v) (o : Nat) (x : Value) : Three w (V.setCell ⟨w.heap.size + 1 + 1, o, none⟩ x) c d (f.setIfInBounds o x) t u v :=
  ⟨h.grow.set (by simp; omega) _, by rw [size_setCell]; exact h.s0, by rw [size_setCell]; exact h.s1, by rw [size_setCell]; exact h.s2,
    by rw [put_other (by omega)]; exact h.b0, by rw [put_other (by omega)]; exact h.b1, put_own h.b2 o x⟩
theorem Three.put1 {w V : World} {c d f : Array Value} {t u v : TypeId} (h : Three w V c d f t u v) (o : Nat) (x : Value) : Three w (V.setCell ⟨w.heap.size + 1, o, none⟩ x) c (d.setIfInBounds o x) f t u v :=
  ⟨h.grow.set (by simp) _, by rw [size_setCell]; exact h.s0, by rw [size_setCell]; exact h.s1, by rw [size_setCell]; exact h.s2,
    by rw [put_other (by omega)]; exact h.b0, put_own h.b1 o x, by rw [put_other (by omega)]; exact h.b2⟩
theorem Fresh.setLow {B : Nat} {w : World} {b g o : Nat} {x : Value} (h : Fresh B w b) (hg : g < B) : Fresh B (w.setCell ⟨g, o, none⟩ x) b :=
  h.step (by rw [size_setCell]; exact Nat.le_refl _) (put_other (by have := h.1; omega) o x)
theorem IsSl.setLow {α : Type} {k : Kd α} {w : World} {B : Nat} {A : Option Addr} {len cap : Nat} {xs : List α} (h : IsSl k w (Fresh B w) A len cap xs) {g o : Nat} {x : Value} (hg : g < B) : IsSl k (w.setCell ⟨g, o, none⟩ x) (Fresh B (w.setCell ⟨g, o, none⟩ x)) A len cap xs :=
  h.mono (fun b hb => hb.setLow hg) fun b hb => put_other (by have := hb.1; omega) o x
theorem IsSl.on {α : Type} {k : Kd α} {w w' : World} {B : Nat} {A : Option Addr} {len cap : Nat} {xs : List α} (h : IsSl k w (Fresh B w) A len cap xs) (hg : Grow w w') : IsSl k w' (Fresh B w') A len cap xs :=
  h.mono (fun b hb => hb.grow hg) fun b hb => hg.block hb.2.1
theorem IsSl.lower {α : Type} {k : Kd α} {w : World} {B B' : Nat} {A : Option Addr} {len cap : Nat} {xs : List α} (h : IsSl k w (Fresh B w) A len cap xs) (hB : B' ≤ B) : IsSl k w (Fresh B' w) A len cap xs :=
  h.mono (fun b hb => hb.low hB) fun b hb => rfl
theorem info_int : (Tryz.prog.info? 2).map (fun i => (i.zero, i.size, i.bytes)) = some (some (.int .i64 0), 1, 8) := by kernel_rfl
theorem info_val : (Tryz.prog.info? 50).map (fun i => (i.zero, i.size, i.bytes)) = some (some (.agg #[.int .i64 0, .int .i64 0, .string ⟨#[]⟩]), 3, 32) := by kernel_rfl
theorem info_tok : (Tryz.prog.info? 108).map (fun i => (i.zero, i.size, i.bytes)) = some (some (.agg #[.int .i64 0, .int .i64 0, .int .i64 0, .int .i64 0, .string ⟨#[]⟩]), 5, 48) := by kernel_rfl
theorem info_col : (Tryz.prog.info? 61).map (fun i => (i.zero, i.size, i.bytes)) = some (some (.agg #[.string ⟨#[]⟩, .int .i64 0, .bool false, .int .i64 0, .int .i64 0, .string ⟨#[]⟩]), 6, 64) := by kernel_rfl
theorem info_unique : (Tryz.prog.info? 106).map (fun i => (i.zero, i.size, i.bytes)) = some (some (.agg #[.slice none 0 0]), 1, 24) := by kernel_rfl
theorem info_check : (Tryz.prog.info? 113).map (fun i => (i.zero, i.size, i.bytes)) = some (some (.agg #[.slice none 0 0]), 1, 24) := by kernel_rfl
theorem info_fk : (Tryz.prog.info? 54).map (fun i => (i.zero, i.size, i.bytes)) = some (some (.agg #[.slice none 0 0, .string ⟨#[]⟩, .int .i64 0, .int .i64 0, .bool false]), 5, 64) := by kernel_rfl
theorem info_table : (Tryz.prog.info? 36).map (fun i => (i.zero, i.size, i.bytes)) = some (some (.agg #[.string ⟨#[]⟩, .slice none 0 0, .slice none 0 0, .slice none 0 0, .slice none 0 0, .slice none 0 0]), 6, 136) := by kernel_rfl
theorem info_row : (Tryz.prog.info? 48).map (fun i => (i.zero, i.size, i.bytes)) = some (some (.agg #[.int .i64 0, .slice none 0 0]), 2, 32) := by kernel_rfl
theorem info_data : (Tryz.prog.info? 39).map (fun i => (i.zero, i.size, i.bytes)) = some (some (.agg #[.slice none 0 0]), 1, 24) := by kernel_rfl
end Go.Proofs.YtjeilgogjoidjaaGreat
