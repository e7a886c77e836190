import Derived.Test.YtonijaniaimgaaaGreatFill
/-! The laws' own functions over structs and slices of them: sizes, copies, equality. -/
namespace Go.Proofs.YtonijaniaimgaaaGreat
open Go.RowKit
set_option linter.unusedVariables false
set_option linter.unusedSimpArgs false

/-- How many elements there are, counted through all that is nested. -/
def cSum {α : Type} (c : α → Nat) (xs : List α) : Nat := (xs.map c).sum
def cntL {α : Type} (c : α → Nat) (xs : List α) : Nat := xs.length + cSum c xs
theorem cSum_take {α : Type} (c : α → Nat) {xs : List α} {k : Nat} {x : α} (hx : xs[k]? = some x) : cSum c (xs.take (k + 1)) = cSum c (xs.take k) + c x := by
  obtain ⟨hk, rfl⟩ := List.getElem?_eq_some_iff.mp hx
  unfold cSum
  rw [List.take_succ_eq_append_getElem hk, List.map_append, List.sum_append]
  simp
theorem cSum_done {α : Type} (c : α → Nat) {xs : List α} {k : Nat} (hk : xs.length ≤ k) : cSum c (xs.take k) = cSum c xs := by rw [List.take_of_length_le hk]
def cInt (_ : Int) : Nat := 0
def cVal (_ : Val) : Nat := 0
theorem cSum_zero {α : Type} (c : α → Nat) (h : ∀ x, c x = 0) (xs : List α) : cSum c xs = 0 := by
  unfold cSum
  induction xs with
  | nil => rfl
  | cons x xs ih => simp [h x] at ih ⊢; exact ih
/-- What a size function leaves: -1, or at most what there was less what it counted, of something small. -/
def SzRes (left : Int) (n : Nat) (P : Prop) (w : World) (e : Ending) (w' : World) : Prop := ∃ r : Int, e = .returned (.int .i64 r) ∧ (r = -1 ∨ (0 ≤ r ∧ r + (n : Int) ≤ left ∧ P)) ∧ Grow w w'
theorem szn_res {left : Int} {n : Nat} (h0 : 0 ≤ left) : szn left n = -1 ∨ (0 ≤ szn left n ∧ szn left n ≤ left) := by unfold szn; split <;> omega
theorem Kd.grow {α : Type} (k : Kd α) {w w' : World} {cs : List Value} {a : α} (h : k.rd w (· < w.heap.size) cs a) (hg : Grow w w') : k.rd w' (· < w'.heap.size) cs a :=
  k.mono h (fun b hb => Nat.lt_of_lt_of_le hb hg.size) fun b hb => hg.block hb
/-- A short list of small things. -/
def SmL {α : Type} (p : α → Prop) (xs : List α) : Prop := xs.length ≤ 1048576 ∧ ∀ x ∈ xs, p x
def smVal (_ : Val) : Prop := True
def smInt (_ : Int) : Prop := True
/-- The first k are small. -/
def SmTo {α : Type} (p : α → Prop) (xs : List α) (k : Nat) : Prop := ∀ j x, j < k → xs[j]? = some x → p x
theorem SmTo.zero {α : Type} (p : α → Prop) (xs : List α) : SmTo p xs 0 := fun j _ h _ => absurd h (Nat.not_lt_zero j)
theorem SmTo.succ {α : Type} {p : α → Prop} {xs : List α} {k : Nat} (h : SmTo p xs k) {x : α} (hx : xs[k]? = some x) (hp : p x) : SmTo p xs (k + 1) := fun j y hj hy => by
  rcases Nat.lt_succ_iff_lt_or_eq.mp hj with h1 | rfl
  · exact h j y h1 hy
  · rw [hx] at hy; cases hy; exact hp
theorem SmTo.done {α : Type} {p : α → Prop} {xs : List α} {k : Nat} (h : SmTo p xs k) (hk : xs.length ≤ k) (hl : xs.length ≤ 1048576) : SmL p xs :=
  ⟨hl, fun x hx => by
    obtain ⟨j, hj, rfl⟩ := List.getElem_of_mem hx
    exact h j _ (by omega) (List.getElem?_eq_getElem hj)⟩
def smTok (x : Tok) : Prop := True
def cTok (x : Tok) : Nat := 0
def smCol (x : Col) : Prop := True
def cCol (x : Col) : Nat := 0
def smUnique (x : Unique) : Prop := SmL smInt x.cols
def cUnique (x : Unique) : Nat := cntL cInt x.cols
def smCheck (x : Check) : Prop := SmL smTok x.expr
def cCheck (x : Check) : Nat := cntL cTok x.expr
def smFk (x : Fk) : Prop := SmL smInt x.cols
def cFk (x : Fk) : Nat := cntL cInt x.cols
def smTable (x : Table) : Prop := SmL smCol x.cols ∧ SmL smInt x.key ∧ SmL smUnique x.uniques ∧ SmL smCheck x.checks ∧ SmL smFk x.fks
def cTable (x : Table) : Nat := cntL cCol x.cols + cntL cInt x.key + cntL cUnique x.uniques + cntL cCheck x.checks + cntL cFk x.fks
def smRow (x : Row) : Prop := SmL smVal x.vals
def cRow (x : Row) : Nat := cntL cVal x.vals
def smData (x : Data) : Prop := SmL smRow x.rows
def cData (x : Data) : Nat := cntL cRow x.rows
/-- Three new blocks of a call. -/
structure Three (w V : World) (c d f : Array Value) (t u v : TypeId) : Prop where
  grow : Grow w V
  s0 : w.heap.size < V.heap.size
  s1 : w.heap.size + 1 < V.heap.size
  s2 : w.heap.size + 1 + 1 < V.heap.size
  b0 : V.heap[w.heap.size]? = some (.cells c t (0, 0))
  b1 : V.heap[w.heap.size + 1]? = some (.cells d u (0, 0))
  b2 : V.heap[w.heap.size + 1 + 1]? = some (.cells f v (0, 0))
theorem Three.of {w W : World} {c d f : Array Value} {t u v : TypeId} (hW : ((w.alloc (.cells c t)).alloc (.cells d u)).alloc (.cells f v) = W) : Three w W c d f t u v := by
  obtain ⟨h0, h1, h2, h3, h4, h5, h6⟩ := boxed3 hW
  exact ⟨h0, h1, h2, h3, h4, h5, h6⟩
theorem Three.call {w V V' : World} {c d f : Array Value} {t u v : TypeId} (h : Three w V c d f t u v) (hg : Grow V V') : Three w V' c d f t u v :=
  ⟨h.grow.trans hg, Nat.lt_of_lt_of_le h.s0 hg.size, Nat.lt_of_lt_of_le h.s1 hg.size, Nat.lt_of_lt_of_le h.s2 hg.size, by rw [hg.block h.s0]; exact h.b0, by rw [hg.block h.s1]; exact h.b1, by rw [hg.block h.s2]; exact h.b2⟩
theorem size_setCell (w : World) (a : Addr) (v : Value) : (w.setCell a v).heap.size = w.heap.size := by simp [World.setCell]
theorem put_own {w : World} {g : Nat} {c : Array Value} {E : TypeId} {fr : Nat × Nat} (h : w.heap[g]? = some (.cells c E fr)) (o : Nat) (x : Value) : (w.setCell ⟨g, o, none⟩ x).heap[g]? = some (.cells (c.setIfInBounds o x) E fr) :=
  setL_own h o [x]
theorem put_other {w : World} {g b : Nat} (hb : b ≠ g) (o : Nat) (x : Value) : (w.setCell ⟨g, o, none⟩ x).heap[b]? = w.heap[b]? := setL_other w g hb o [x]
theorem Three.put {w V : World} {c d f : Array Value} {t u v : TypeId} (h : Three w V c d f t u v) (o : Nat) (x : Value) : Three w (V.setCell ⟨w.heap.size + 1 + 1, o, none⟩ x) c d (f.setIfInBounds o x) t u v :=
  ⟨h.grow.set (by simp; omega) _, by rw [size_setCell]; exact h.s0, by rw [size_setCell]; exact h.s1, by rw [size_setCell]; exact h.s2,
    by rw [put_other (by omega)]; exact h.b0, by rw [put_other (by omega)]; exact h.b1, put_own h.b2 o x⟩
theorem Three.put1 {w V : World} {c d f : Array Value} {t u v : TypeId} (h : Three w V c d f t u v) (o : Nat) (x : Value) : Three w (V.setCell ⟨w.heap.size + 1, o, none⟩ x) c (d.setIfInBounds o x) f t u v :=
  ⟨h.grow.set (by simp) _, by rw [size_setCell]; exact h.s0, by rw [size_setCell]; exact h.s1, by rw [size_setCell]; exact h.s2,
    by rw [put_other (by omega)]; exact h.b0, put_own h.b1 o x, by rw [put_other (by omega)]; exact h.b2⟩
theorem Fresh.setLow {B : Nat} {w : World} {b g o : Nat} {x : Value} (h : Fresh B w b) (hg : g < B) : Fresh B (w.setCell ⟨g, o, none⟩ x) b :=
  h.step (by rw [size_setCell]; exact Nat.le_refl _) (put_other (by have := h.1; omega) o x)
theorem IsSl.setLow {α : Type} {k : Kd α} {w : World} {B : Nat} {A : Option Addr} {len cap : Nat} {xs : List α} (h : IsSl k w (Fresh B w) A len cap xs) {g o : Nat} {x : Value} (hg : g < B) : IsSl k (w.setCell ⟨g, o, none⟩ x) (Fresh B (w.setCell ⟨g, o, none⟩ x)) A len cap xs :=
  h.mono (fun b hb => hb.setLow hg) fun b hb => put_other (by have := hb.1; omega) o x
theorem IsSl.on {α : Type} {k : Kd α} {w w' : World} {B : Nat} {A : Option Addr} {len cap : Nat} {xs : List α} (h : IsSl k w (Fresh B w) A len cap xs) (hg : Grow w w') : IsSl k w' (Fresh B w') A len cap xs :=
  h.mono (fun b hb => hb.grow hg) fun b hb => hg.block hb.2.1
theorem IsSl.lower {α : Type} {k : Kd α} {w : World} {B B' : Nat} {A : Option Addr} {len cap : Nat} {xs : List α} (h : IsSl k w (Fresh B w) A len cap xs) (hB : B' ≤ B) : IsSl k w (Fresh B' w) A len cap xs :=
  h.mono (fun b hb => hb.low hB) fun b hb => rfl
theorem eqVal_any (k n : Int) (s : ByteArray) (w : World) :
    Calls Tryz.prog 219 #[.agg #[.int .i64 k, .int .i64 n, .string s], .agg #[.int .i64 k, .int .i64 n, .string s]] w (Ret w (.bool true)) := by
  go_enter Tryz.func219, Tryz.ntmps219
  go_wp2
  go_ret
  exact ⟨rfl, (by repeat (with_reducible first | exact Grow.refl _ | assumption | refine Grow.drew ?_ | refine Grow.alloc ?_ _ | refine Grow.set ?_ (by first | exact Nat.le_refl _ | (simp; done) | (simp; omega) | omega) _ | exact And.left (by assumption) | refine Grow.trans ?_ (by assumption)))⟩
theorem szInt64S_any {A : Option Addr} {len cap : Nat} {xs : List Int} (left : Int) (w : World) (h : IsSl Kd.int w (· < w.heap.size) A len cap xs) (l0 : 0 ≤ left) (l1 : left ≤ 1048576) :
    Calls Tryz.prog 101 #[.slice A len cap, .int .i64 left] w (SzRes left (cntL cInt xs) (SmL smInt xs) w) := by
  have hlen : len ≤ maxLen := Nat.le_trans h.2.1 h.2.2.1
  have HX := Lib.hid h.1
  unfold maxLen at hlen
  go_enter Tryz.func101, Tryz.ntmps101
  go_wp2
  · go_ret
    exact ⟨-1, rfl, .inl rfl, Grow.refl _⟩
  go_ret
  exact ⟨_, rfl, .inr ⟨by omega, by rw [cntL, cSum_zero cInt (fun _ => rfl), HX.out]; omega, by rw [HX.out]; omega, fun _ _ => trivial⟩, Grow.refl _⟩
theorem info_int : (Tryz.prog.info? 2).map (fun i => (i.zero, i.size, i.bytes)) = some (some (.int .i64 0), 1, 8) := by kernel_rfl
theorem toInt64S_any {A : Option Addr} {len cap : Nat} {xs : List Int} (w : World) (h : IsSl Kd.int w (· < w.heap.size) A len cap xs) (hsm : SmL smInt xs) :
    Calls Tryz.prog 109 #[.slice A len cap] w (SlRes Kd.int xs w) := by
  have hl : len ≤ 1048576 := by rw [← h.1]; exact hsm.1
  have hlen : len ≤ maxLen := Nat.le_trans h.2.1 h.2.2.1
  have hby : 8 * len ≤ 281474976710656 := by omega
  have HB := Lib.hid hby
  have HL := Lib.hid hlen
  have HX := Lib.hid h.1
  clear hby hl
  obtain ⟨i0, hi, hz0, hz1, hz2⟩ := info_parts info_int
  unfold maxLen at hlen
  go_enter Tryz.func109, Tryz.ntmps109
  go_wp2_with (at_make; refine wpList_make_full _ rfl _ _ 48 rfl w.heap.size 2 i0 _ 1 Tryz.underlying48 hi hz0 hz1 .i64 .i64 _ _ len rfl rfl rfl rfl (by rw [hz2]; exact HB.out) HL.out (Nat.le_refl _) ?_; intro w0 hown hgrow)
  have hG : Grow w w0 := Below.grown (Below.refl _ _) hgrow (Nat.le_refl _) (fun k hk => by cases hk)
  have hF : Fill Kd.int 2 w.heap.size w0 w.heap.size len 0 xs := Fill.start rfl hown
  have hwg : w.heap.size ≤ w.heap.size := Nat.le_refl _
  clear hown hgrow hi hz0 hz1 hz2
  go_loopw [4] (fun i wr => ∃ k : Nat, k ≤ len ∧ i = .int .i64 k ∧ Grow w wr ∧ Fill Kd.int 2 w.heap.size wr w.heap.size len k xs) (fun i _ => len - (intOf i).toNat)
  case atStart => exact ⟨0, Nat.zero_le _, rfl, hG, hF⟩
  case round =>
    obtain ⟨k, hk, rfl, hg, hF⟩ := hrel
    by_cases hlt : k < len
    · obtain ⟨b, off, x, rfl, hx, c0⟩ := int_at (h.grow hg) hlt
      have hF1 := hF
      have hgb := hg
      have ff := hF1.free
      obtain ⟨u0, d0⟩ := hF1.there (i := k) (j := 0) hlt (by decide)
      simp only [Kd.int, Nat.add_zero, Nat.mul_one] at d0
      have key := Lib.hid (hF1.put hlt hx.out (cs := [.int .i64 x]) rfl)
      simp only [setL, show Kd.int.n = 1 from rfl, Nat.add_assoc, Nat.mul_one] at key
      go_wp2
      go_roundw
      case rel => exact ⟨k + 1, by omega, by go_num, (by repeat (with_reducible first | exact Grow.refl _ | assumption | refine Grow.drew ?_ | refine Grow.alloc ?_ _ | refine Grow.set ?_ (by first | exact Nat.le_refl _ | (simp; done) | (simp; omega) | omega) _ | exact And.left (by assumption) | refine Grow.trans ?_ (by assumption))), key.out⟩
      case measure => simp [intOf]; omega
    · go_wp2
      have hk' : k = len := by omega
      subst hk'
      go_ret
      exact ⟨_, k, k, rfl, hF.done HX.out HL.out, hg⟩
theorem eqInt64S_any {A A' : Option Addr} {len len' cap cap' : Nat} {xs : List Int} (w : World) (h : IsSl Kd.int w (· < w.heap.size) A len cap xs) (h' : IsSl Kd.int w (· < w.heap.size) A' len' cap' xs) :
    Calls Tryz.prog 117 #[.slice A len cap, .slice A' len' cap'] w (Ret w (.bool true)) := by
  have hll : len' = len := h'.1.symm.trans h.1
  subst hll
  have hlen : len' ≤ maxLen := Nat.le_trans h.2.1 h.2.2.1
  unfold maxLen at hlen
  go_enter Tryz.func117, Tryz.ntmps117
  go_wp2
  go_loopw [5] (fun i wr => ∃ k : Nat, k ≤ len' ∧ i = .int .i64 k ∧ Grow w wr) (fun i _ => len' - (intOf i).toNat)
  case atStart => exact ⟨0, Nat.zero_le _, rfl, Grow.refl _⟩
  case round =>
    obtain ⟨k, hk, rfl, hg⟩ := hrel
    by_cases hlt : k < len'
    · obtain ⟨b, off, x, rfl, hx, c0⟩ := int_at (h.grow hg) hlt
      obtain ⟨b', off', x', rfl, hx', d0⟩ := int_at (h'.grow hg) hlt
      obtain rfl : x = x' := Option.some.inj (hx.out.symm.trans hx'.out)
      have i0 : (0 : Int) ≤ (k : Int) := Int.natCast_nonneg k
      have i1 : (k : Int) < (len' : Int) := Int.ofNat_lt.mpr hlt
      go_wp2
      go_region
      go_wp2
      go_roundw
      case rel => exact ⟨k + 1, by omega, by go_num, (by repeat (with_reducible first | exact Grow.refl _ | assumption | refine Grow.drew ?_ | refine Grow.alloc ?_ _ | refine Grow.set ?_ (by first | exact Nat.le_refl _ | (simp; done) | (simp; omega) | omega) _ | exact And.left (by assumption) | refine Grow.trans ?_ (by assumption)))⟩
      case measure => simp [intOf]; omega
    · go_wp2
      go_ret
      exact ⟨rfl, hg⟩
theorem szValS_any {A : Option Addr} {len cap : Nat} {xs : List Val} (left : Int) (w : World) (h : IsSl Kd.val w (· < w.heap.size) A len cap xs) (l0 : 0 ≤ left) (l1 : left ≤ 1048576) :
    Calls Tryz.prog 212 #[.slice A len cap, .int .i64 left] w (SzRes left (cntL cVal xs) (SmL smVal xs) w) := by
  have hlen : len ≤ maxLen := Nat.le_trans h.2.1 h.2.2.1
  have HX := Lib.hid h.1
  unfold maxLen at hlen
  go_enter Tryz.func212, Tryz.ntmps212
  go_wp2
  · go_ret
    exact ⟨-1, rfl, .inl rfl, Grow.refl _⟩
  have hlen' : len ≤ 1048576 := by omega
  go_loopw [1, 4, 5] (fun l _ i wr => ∃ (k : Nat) (r : Int), k ≤ len ∧ i = .int .i64 k ∧ l = .int .i64 r ∧ 0 ≤ r ∧ r + (len : Int) + ((cSum cVal (xs.take k) : Nat) : Int) ≤ left ∧ SmTo smVal xs k ∧ Grow w wr) (fun _ _ i _ => len - (intOf i).toNat)
  case atStart => exact ⟨0, _, Nat.zero_le _, rfl, rfl, by omega, by simp only [List.take_zero, cSum, List.map_nil, List.sum_nil]; omega, SmTo.zero _ _, Grow.refl _⟩
  case round =>
    obtain ⟨k, r, hk, rfl, rfl, hr0, hr1, hsm, hg⟩ := hrel
    by_cases hlt : k < len
    · obtain ⟨b, off, x, rfl, hx, _, hb, hs, c0, c1, c2⟩ := val_at (h.grow hg) hlt
      go_wp2_with fail
      refine (szVal_any _ _ _ _ _ hr0 (by omega) hs).mono ?_
      rintro e w1 ⟨rfl, hb⟩
      have hr := szn_res (left := r) (n := x.s.size) hr0
      generalize szn _ x.s.size = r1 at hr ⊢
      have hsm1 : smVal x := trivial
      have hct := Lib.hid (cSum_take cVal hx.out)
      have hc0 : cVal x = 0 := rfl
      go_wp2
      · go_ret
        exact ⟨-1, rfl, .inl rfl, hg.trans hb⟩
      · go_roundw
        case rel => exact ⟨k + 1, r1, by omega, by go_num, rfl, by omega, by rw [hct.out]; omega, hsm.succ hx.out hsm1, hg.trans hb⟩
        case measure => simp [intOf]; omega
    · go_wp2
      go_ret
      exact ⟨r, rfl, .inr ⟨hr0, by rw [cSum_done _ (by rw [HX.out]; omega)] at hr1; rw [cntL, HX.out]; omega, hsm.done (by rw [HX.out]; omega) (by rw [HX.out]; exact hlen')⟩, hg⟩
theorem info_val : (Tryz.prog.info? 72).map (fun i => (i.zero, i.size, i.bytes)) = some (some (.agg #[.int .i64 0, .int .i64 0, .string ⟨#[]⟩]), 3, 32) := by kernel_rfl
theorem toValS_any {A : Option Addr} {len cap : Nat} {xs : List Val} (w : World) (h : IsSl Kd.val w (· < w.heap.size) A len cap xs) (hsm : SmL smVal xs) :
    Calls Tryz.prog 217 #[.slice A len cap] w (SlRes Kd.val xs w) := by
  have hl : len ≤ 1048576 := by rw [← h.1]; exact hsm.1
  have hlen : len ≤ maxLen := Nat.le_trans h.2.1 h.2.2.1
  have hby : 32 * len ≤ 281474976710656 := by omega
  have HB := Lib.hid hby
  have HL := Lib.hid hlen
  have HX := Lib.hid h.1
  clear hby hl
  obtain ⟨i0, hi, hz0, hz1, hz2⟩ := info_parts info_val
  unfold maxLen at hlen
  go_enter Tryz.func217, Tryz.ntmps217
  go_wp2_with (at_make; refine wpList_make_full _ rfl _ _ 54 rfl w.heap.size 72 i0 _ 3 Tryz.underlying54 hi hz0 hz1 .i64 .i64 _ _ len rfl rfl rfl rfl (by rw [hz2]; exact HB.out) HL.out (Nat.le_refl _) ?_; intro w0 hown hgrow)
  have hG : Grow w w0 := Below.grown (Below.refl _ _) hgrow (Nat.le_refl _) (fun k hk => by cases hk)
  have hF : Fill Kd.val 72 w.heap.size w0 w.heap.size len 0 xs := Fill.start rfl hown
  have hwg : w.heap.size ≤ w.heap.size := Nat.le_refl _
  clear hown hgrow hi hz0 hz1 hz2
  go_loopw [4] (fun i wr => ∃ k : Nat, k ≤ len ∧ i = .int .i64 k ∧ Grow w wr ∧ Fill Kd.val 72 w.heap.size wr w.heap.size len k xs) (fun i _ => len - (intOf i).toNat)
  case atStart => exact ⟨0, Nat.zero_le _, rfl, hG, hF⟩
  case round =>
    obtain ⟨k, hk, rfl, hg, hF⟩ := hrel
    by_cases hlt : k < len
    · obtain ⟨b, off, x, rfl, hx, _, hb, hs, c0, c1, c2⟩ := val_at (h.grow hg) hlt
      go_wp2_with fail
      refine (toVal_any _ _ _ _).mono ?_
      rintro e w1 ⟨rfl, hb⟩
      have hF1 := hF.grow hb
      have hgb := hg.trans hb
      have ff := hF1.free
      obtain ⟨u0, d0⟩ := hF1.there (i := k) (j := 0) hlt (by decide)
      obtain ⟨u1, d1⟩ := hF1.there (i := k) (j := 1) hlt (by decide)
      obtain ⟨u2, d2⟩ := hF1.there (i := k) (j := 2) hlt (by decide)
      simp only [Kd.val, Nat.add_zero] at d0 d1 d2
      have key := Lib.hid (hF1.put hlt hx.out (cs := [.int .i64 x.kind, .int .i64 x.n, .string x.s]) ⟨rfl, hs⟩)
      simp only [setL, show Kd.val.n = 3 from rfl, Nat.add_assoc, Nat.reduceAdd] at key
      go_wp2
      go_roundw
      case rel => exact ⟨k + 1, by omega, by go_num, (by repeat (with_reducible first | exact Grow.refl _ | assumption | refine Grow.drew ?_ | refine Grow.alloc ?_ _ | refine Grow.set ?_ (by first | exact Nat.le_refl _ | (simp; done) | (simp; omega) | omega) _ | exact And.left (by assumption) | refine Grow.trans ?_ (by assumption))), key.out⟩
      case measure => simp [intOf]; omega
    · go_wp2
      have hk' : k = len := by omega
      subst hk'
      go_ret
      exact ⟨_, k, k, rfl, hF.done HX.out HL.out, hg⟩
theorem eqValS_any {A A' : Option Addr} {len len' cap cap' : Nat} {xs : List Val} (w : World) (h : IsSl Kd.val w (· < w.heap.size) A len cap xs) (h' : IsSl Kd.val w (· < w.heap.size) A' len' cap' xs) :
    Calls Tryz.prog 221 #[.slice A len cap, .slice A' len' cap'] w (Ret w (.bool true)) := by
  have hll : len' = len := h'.1.symm.trans h.1
  subst hll
  have hlen : len' ≤ maxLen := Nat.le_trans h.2.1 h.2.2.1
  unfold maxLen at hlen
  go_enter Tryz.func221, Tryz.ntmps221
  go_wp2
  go_loopw [5] (fun i wr => ∃ k : Nat, k ≤ len' ∧ i = .int .i64 k ∧ Grow w wr) (fun i _ => len' - (intOf i).toNat)
  case atStart => exact ⟨0, Nat.zero_le _, rfl, Grow.refl _⟩
  case round =>
    obtain ⟨k, hk, rfl, hg⟩ := hrel
    by_cases hlt : k < len'
    · obtain ⟨b, off, x, rfl, hx, _, hb, hs, c0, c1, c2⟩ := val_at (h.grow hg) hlt
      obtain ⟨b', off', x', rfl, hx', _, hb', hs', d0, d1, d2⟩ := val_at (h'.grow hg) hlt
      obtain rfl : x = x' := Option.some.inj (hx.out.symm.trans hx'.out)
      have i0 : (0 : Int) ≤ (k : Int) := Int.natCast_nonneg k
      have i1 : (k : Int) < (len' : Int) := Int.ofNat_lt.mpr hlt
      go_wp2
      go_region_held3 (fun w' => Grow wr w' ∧ Same wr w') (exact Grow.both (by repeat (with_reducible first | exact Grow.refl _ | assumption | refine Grow.drew ?_ | refine Grow.alloc ?_ _ | refine Grow.set ?_ (by first | exact Nat.le_refl _ | (simp; done) | (simp; omega) | omega) _ | exact And.left (by assumption) | refine Grow.trans ?_ (by assumption)))) (first | (go_at_call 219; refine (eqVal_any _ _ _ _).mono ?_; rintro e w2 ⟨rfl, hb⟩))
      obtain ⟨hcur, hc⟩ : Grow wr w2 ∧ Same wr w2 := by assumption
      go_wp2
      go_roundw
      case rel => exact ⟨k + 1, by omega, by go_num, hg.trans hcur⟩
      case measure => simp [intOf]; omega
    · go_wp2
      go_ret
      exact ⟨rfl, hg⟩
theorem szTok_any (left : Int) (cs : List Value) (x : Tok) (w : World) (h : Kd.tok.rd w (· < w.heap.size) cs x) (l0 : 0 ≤ left) (l1 : left ≤ 1048576) :
    Calls Tryz.prog 239 #[.agg cs.toArray, .int .i64 left] w (SzRes left (cTok x) (smTok x) w) := by
  obtain ⟨rfl, zv⟩ := h
  go_enter Tryz.func239, Tryz.ntmps239
  go_wp2_with fail
  generalize hW : World.alloc w _ = W
  obtain ⟨hg, hs', k1⟩ := boxed1 hW
  clear hW
  have hcur := Grow.refl W
  refine (szVal_any _ _ _ _ _ (by omega) (by omega) zv).mono ?_
  rintro e w0 ⟨rfl, hb0⟩
  have hr0 := szn_res (left := left) (n := x.v.s.size) (by omega)
  generalize szn _ x.v.s.size = r0 at hr0 ⊢
  replace hcur := hcur.trans hb0
  have hc := hcur.same
  have hgc := hg.trans hcur
  rcases hr0 with rfl | hr0
  · go_wp2
    go_ret
    exact ⟨-1, rfl, .inl rfl, (by repeat (with_reducible first | exact Grow.refl _ | assumption | refine Grow.drew ?_ | refine Grow.alloc ?_ _ | refine Grow.set ?_ (by first | exact Nat.le_refl _ | (simp; done) | (simp; omega) | omega) _ | exact And.left (by assumption) | refine Grow.trans ?_ (by assumption)))⟩
  go_wp2
  go_ret
  exact ⟨_, rfl, .inr ⟨by omega, by unfold cTok; omega, by unfold smTok; trivial⟩, (by repeat (with_reducible first | exact Grow.refl _ | assumption | refine Grow.drew ?_ | refine Grow.alloc ?_ _ | refine Grow.set ?_ (by first | exact Nat.le_refl _ | (simp; done) | (simp; omega) | omega) _ | exact And.left (by assumption) | refine Grow.trans ?_ (by assumption)))⟩
theorem szTokS_any {A : Option Addr} {len cap : Nat} {xs : List Tok} (left : Int) (w : World) (h : IsSl Kd.tok w (· < w.heap.size) A len cap xs) (l0 : 0 ≤ left) (l1 : left ≤ 1048576) :
    Calls Tryz.prog 211 #[.slice A len cap, .int .i64 left] w (SzRes left (cntL cTok xs) (SmL smTok xs) w) := by
  have hlen : len ≤ maxLen := Nat.le_trans h.2.1 h.2.2.1
  have HX := Lib.hid h.1
  unfold maxLen at hlen
  go_enter Tryz.func211, Tryz.ntmps211
  go_wp2
  · go_ret
    exact ⟨-1, rfl, .inl rfl, Grow.refl _⟩
  have hlen' : len ≤ 1048576 := by omega
  go_loopw [1, 4, 5] (fun l _ i wr => ∃ (k : Nat) (r : Int), k ≤ len ∧ i = .int .i64 k ∧ l = .int .i64 r ∧ 0 ≤ r ∧ r + (len : Int) + ((cSum cTok (xs.take k) : Nat) : Int) ≤ left ∧ SmTo smTok xs k ∧ Grow w wr) (fun _ _ i _ => len - (intOf i).toNat)
  case atStart => exact ⟨0, _, Nat.zero_le _, rfl, rfl, by omega, by simp only [List.take_zero, cSum, List.map_nil, List.sum_nil]; omega, SmTo.zero _ _, Grow.refl _⟩
  case round =>
    obtain ⟨k, r, hk, rfl, rfl, hr0, hr1, hsm, hg⟩ := hrel
    by_cases hlt : k < len
    · obtain ⟨b, off, x, rfl, hx, _, hb, zv, c0, c1, c2, c3, c4, hrd⟩ := tok_at (h.grow hg) hlt
      go_wp2_with fail
      refine (szTok_any r _ x _ hrd hr0 (by omega)).mono ?_
      rintro e w1 ⟨r1, rfl, hr, hb⟩
      have hsm1 : r1 = -1 ∨ smTok x := by rcases hr with h | h; exact .inl h; exact .inr h.2.2
      have hct := Lib.hid (cSum_take cTok hx.out)
      go_wp2
      · go_ret
        exact ⟨-1, rfl, .inl rfl, hg.trans hb⟩
      · go_roundw
        case rel => exact ⟨k + 1, r1, by omega, by go_num, rfl, by omega, by rw [hct.out]; omega, hsm.succ hx.out (hsm1.resolve_left (by omega)), hg.trans hb⟩
        case measure => simp [intOf]; omega
    · go_wp2
      go_ret
      exact ⟨r, rfl, .inr ⟨hr0, by rw [cSum_done _ (by rw [HX.out]; omega)] at hr1; rw [cntL, HX.out]; omega, hsm.done (by rw [HX.out]; omega) (by rw [HX.out]; exact hlen')⟩, hg⟩
set_option maxHeartbeats 1000000 in
theorem toTok_any (cs : List Value) (x : Tok) (w : World) (h : Kd.tok.rd w (· < w.heap.size) cs x) (hsm : smTok x) :
    Calls Tryz.prog 241 #[.agg cs.toArray] w (ToRes Kd.tok x w) := by
  obtain ⟨rfl, zv⟩ := h
  go_enter Tryz.func241, Tryz.ntmps241
  go_wp2_with fail
  generalize hW : World.alloc _ _ = W
  have t := Three.of hW
  clear hW
  refine (toVal_any _ _ _ _).mono ?_
  rintro e w0 ⟨rfl, hb0⟩
  replace t := t.call hb0
  obtain ⟨k0, f0⟩ := free_of t.b0
  obtain ⟨k1, f1⟩ := free_of t.b1
  obtain ⟨k2, f2⟩ := free_of t.b2
  have s0 := t.s0
  have s1 := t.s1
  have s2 := t.s2
  go_wp2
  clear k0 k1 k2 f0 f1 f2 s0 s1 s2
  replace t := t.put 2 (.int .i64 x.v.kind)
  replace t := t.put 3 (.int .i64 x.v.n)
  replace t := t.put 4 (.string x.v.s)
  replace t := t.put1 0 (.int .i64 x.kind)
  replace t := t.put1 1 (.int .i64 x.col)
  replace t := t.put1 2 (.int .i64 x.v.kind)
  replace t := t.put1 3 (.int .i64 x.v.n)
  replace t := t.put1 4 (.string x.v.s)
  generalize hV : World.setCell _ _ _ = V at t  ⊢
  clear hV
  replace t : Three w V _ #[.int .i64 x.kind, .int .i64 x.col, .int .i64 x.v.kind, .int .i64 x.v.n, .string x.v.s] _ _ _ _ := t
  have k1 := (free_of t.b1).1
  have s1 := t.s1
  exact bodyPost_ret (v := .agg #[.int .i64 x.kind, .int .i64 x.col, .int .i64 x.v.kind, .int .i64 x.v.n, .string x.v.s]) (by simp [results, Tryz.results241, go_sem, k1, s1]) rfl ⟨[.int .i64 x.kind, .int .i64 x.col, .int .i64 x.v.kind, .int .i64 x.v.n, .string x.v.s], rfl, ⟨rfl, zv⟩, t.grow⟩
theorem info_tok : (Tryz.prog.info? 163).map (fun i => (i.zero, i.size, i.bytes)) = some (some (.agg #[.int .i64 0, .int .i64 0, .int .i64 0, .int .i64 0, .string ⟨#[]⟩]), 5, 48) := by kernel_rfl
theorem toTokS_any {A : Option Addr} {len cap : Nat} {xs : List Tok} (w : World) (h : IsSl Kd.tok w (· < w.heap.size) A len cap xs) (hsm : SmL smTok xs) :
    Calls Tryz.prog 216 #[.slice A len cap] w (SlRes Kd.tok xs w) := by
  have hl : len ≤ 1048576 := by rw [← h.1]; exact hsm.1
  have hlen : len ≤ maxLen := Nat.le_trans h.2.1 h.2.2.1
  have hby : 48 * len ≤ 281474976710656 := by omega
  have HB := Lib.hid hby
  have HL := Lib.hid hlen
  have HX := Lib.hid h.1
  clear hby hl
  obtain ⟨i0, hi, hz0, hz1, hz2⟩ := info_parts info_tok
  unfold maxLen at hlen
  go_enter Tryz.func216, Tryz.ntmps216
  go_wp2_with (at_make; refine wpList_make_full _ rfl _ _ 76 rfl w.heap.size 163 i0 _ 5 Tryz.underlying76 hi hz0 hz1 .i64 .i64 _ _ len rfl rfl rfl rfl (by rw [hz2]; exact HB.out) HL.out (Nat.le_refl _) ?_; intro w0 hown hgrow)
  have hG : Grow w w0 := Below.grown (Below.refl _ _) hgrow (Nat.le_refl _) (fun k hk => by cases hk)
  have hF : Fill Kd.tok 163 w.heap.size w0 w.heap.size len 0 xs := Fill.start rfl hown
  have hwg : w.heap.size ≤ w.heap.size := Nat.le_refl _
  clear hown hgrow hi hz0 hz1 hz2
  go_loopw [4] (fun i wr => ∃ k : Nat, k ≤ len ∧ i = .int .i64 k ∧ Grow w wr ∧ Fill Kd.tok 163 w.heap.size wr w.heap.size len k xs) (fun i _ => len - (intOf i).toNat)
  case atStart => exact ⟨0, Nat.zero_le _, rfl, hG, hF⟩
  case round =>
    obtain ⟨k, hk, rfl, hg, hF⟩ := hrel
    by_cases hlt : k < len
    · obtain ⟨b, off, x, rfl, hx, _, hb, zv, c0, c1, c2, c3, c4, hrd⟩ := tok_at (h.grow hg) hlt
      go_wp2_with fail
      refine (toTok_any _ x _ hrd (hsm.2 x (mem_of_at hx.out))).mono ?_
      rintro e w1 ⟨cs1, rfl, hrd1, hb⟩
      have hF1 := hF.grow hb
      have hlg := hF.lt
      have hgb := hg.trans hb
      have ff := hF1.free
      have hrd2 := Lib.hid (Kd.tok.mono hrd1 (S' := fun b => Fresh w.heap.size w1 b ∧ b ≠ w.heap.size) (fun b hb => ⟨hb.low hg.size, by have := hb.1; omega⟩) (fun _ _ => rfl))
      obtain ⟨rfl, zv1⟩ := hrd1
      obtain ⟨u0, d0⟩ := hF1.there (i := k) (j := 0) hlt (by decide)
      obtain ⟨u1, d1⟩ := hF1.there (i := k) (j := 1) hlt (by decide)
      obtain ⟨u2, d2⟩ := hF1.there (i := k) (j := 2) hlt (by decide)
      obtain ⟨u3, d3⟩ := hF1.there (i := k) (j := 3) hlt (by decide)
      obtain ⟨u4, d4⟩ := hF1.there (i := k) (j := 4) hlt (by decide)
      simp only [Kd.tok, Nat.add_zero] at d0 d1 d2 d3 d4
      have key := Lib.hid (hF1.put hlt hx.out (cs := [.int .i64 x.kind, .int .i64 x.col, .int .i64 x.v.kind, .int .i64 x.v.n, .string x.v.s]) hrd2.out)
      simp only [setL, show Kd.tok.n = 5 from rfl, Nat.add_assoc, Nat.reduceAdd] at key
      go_wp2
      go_roundw
      case rel => exact ⟨k + 1, by omega, by go_num, (by repeat (with_reducible first | exact Grow.refl _ | assumption | refine Grow.drew ?_ | refine Grow.alloc ?_ _ | refine Grow.set ?_ (by first | exact Nat.le_refl _ | (simp; done) | (simp; omega) | omega) _ | exact And.left (by assumption) | refine Grow.trans ?_ (by assumption))), key.out⟩
      case measure => simp [intOf]; omega
    · go_wp2
      have hk' : k = len := by omega
      subst hk'
      go_ret
      exact ⟨_, k, k, rfl, hF.done HX.out HL.out, hg⟩
theorem eqTok_any (cs cs' : List Value) (x : Tok) (w : World) (h : Kd.tok.rd w (· < w.heap.size) cs x) (h' : Kd.tok.rd w (· < w.heap.size) cs' x) :
    Calls Tryz.prog 242 #[.agg cs.toArray, .agg cs'.toArray] w (Ret w (.bool true)) := by
  obtain ⟨rfl, zv⟩ := h
  obtain ⟨rfl, zv'⟩ := h'
  go_enter Tryz.func242, Tryz.ntmps242
  go_wp2_with fail
  generalize hW : World.alloc (World.alloc w _) _ = W
  obtain ⟨hg, hs, hs', k1, k2⟩ := boxed2 hW
  clear hW
  have hcur := Grow.refl W
  have hc := hcur.same
  go_wp2_with (first | (go_at_call 219; (with_reducible refine (eqVal_any _ _ _ _).mono ?_); rintro e w1 ⟨rfl, hb⟩; replace hcur := hcur.trans hb; replace hc := hcur.same; clear hb))
  go_ret
  exact ⟨rfl, (by repeat (with_reducible first | exact Grow.refl _ | assumption | refine Grow.drew ?_ | refine Grow.alloc ?_ _ | refine Grow.set ?_ (by first | exact Nat.le_refl _ | (simp; done) | (simp; omega) | omega) _ | exact And.left (by assumption) | refine Grow.trans ?_ (by assumption)))⟩
theorem eqTokS_any {A A' : Option Addr} {len len' cap cap' : Nat} {xs : List Tok} (w : World) (h : IsSl Kd.tok w (· < w.heap.size) A len cap xs) (h' : IsSl Kd.tok w (· < w.heap.size) A' len' cap' xs) :
    Calls Tryz.prog 220 #[.slice A len cap, .slice A' len' cap'] w (Ret w (.bool true)) := by
  have hll : len' = len := h'.1.symm.trans h.1
  subst hll
  have hlen : len' ≤ maxLen := Nat.le_trans h.2.1 h.2.2.1
  unfold maxLen at hlen
  go_enter Tryz.func220, Tryz.ntmps220
  go_wp2
  go_loopw [5] (fun i wr => ∃ k : Nat, k ≤ len' ∧ i = .int .i64 k ∧ Grow w wr) (fun i _ => len' - (intOf i).toNat)
  case atStart => exact ⟨0, Nat.zero_le _, rfl, Grow.refl _⟩
  case round =>
    obtain ⟨k, hk, rfl, hg⟩ := hrel
    by_cases hlt : k < len'
    · obtain ⟨b, off, x, rfl, hx, _, hb, zv, c0, c1, c2, c3, c4, hrd⟩ := tok_at (h.grow hg) hlt
      obtain ⟨b', off', x', rfl, hx', _, hb', zv', d0, d1, d2, d3, d4, hrd'⟩ := tok_at (h'.grow hg) hlt
      obtain rfl : x = x' := Option.some.inj (hx.out.symm.trans hx'.out)
      have i0 : (0 : Int) ≤ (k : Int) := Int.natCast_nonneg k
      have i1 : (k : Int) < (len' : Int) := Int.ofNat_lt.mpr hlt
      go_wp2
      go_region_held3 (fun w' => Grow wr w' ∧ Same wr w') (exact Grow.both (by repeat (with_reducible first | exact Grow.refl _ | assumption | refine Grow.drew ?_ | refine Grow.alloc ?_ _ | refine Grow.set ?_ (by first | exact Nat.le_refl _ | (simp; done) | (simp; omega) | omega) _ | exact And.left (by assumption) | refine Grow.trans ?_ (by assumption)))) (first | (go_at_call 242; refine (eqTok_any _ _ x _ (Kd.tok.grow hrd (And.left (by assumption))) (Kd.tok.grow hrd' (And.left (by assumption)))).mono ?_; rintro e w2 ⟨rfl, hb⟩))
      obtain ⟨hcur, hc⟩ : Grow wr w2 ∧ Same wr w2 := by assumption
      go_wp2
      go_roundw
      case rel => exact ⟨k + 1, by omega, by go_num, hg.trans hcur⟩
      case measure => simp [intOf]; omega
    · go_wp2
      go_ret
      exact ⟨rfl, hg⟩
theorem szCol_any (left : Int) (cs : List Value) (x : Col) (w : World) (h : Kd.col.rd w (· < w.heap.size) cs x) (l0 : 0 ≤ left) (l1 : left ≤ 1048576) :
    Calls Tryz.prog 167 #[.agg cs.toArray, .int .i64 left] w (SzRes left (cCol x) (smCol x) w) := by
  obtain ⟨rfl, zname, zdflt⟩ := h
  have yname := Lib.hid zname
  unfold maxLen at zname
  go_enter Tryz.func167, Tryz.ntmps167
  go_wp2_with fail
  · go_ret
    exact ⟨-1, rfl, .inl rfl, (by repeat (with_reducible first | exact Grow.refl _ | assumption | refine Grow.drew ?_ | refine Grow.alloc ?_ _ | refine Grow.set ?_ (by first | exact Nat.le_refl _ | (simp; done) | (simp; omega) | omega) _ | exact And.left (by assumption) | refine Grow.trans ?_ (by assumption)))⟩
  generalize hW : World.alloc w _ = W
  obtain ⟨hg, hs', k1⟩ := boxed1 hW
  clear hW
  have hcur := Grow.refl W
  refine (szVal_any _ _ _ _ _ (by omega) (by omega) zdflt).mono ?_
  rintro e w0 ⟨rfl, hb0⟩
  have hr0 := szn_res (left := (left - x.name.size)) (n := x.dflt.s.size) (by omega)
  generalize szn _ x.dflt.s.size = r0 at hr0 ⊢
  replace hcur := hcur.trans hb0
  have hc := hcur.same
  have hgc := hg.trans hcur
  rcases hr0 with rfl | hr0
  · go_wp2
    go_ret
    exact ⟨-1, rfl, .inl rfl, (by repeat (with_reducible first | exact Grow.refl _ | assumption | refine Grow.drew ?_ | refine Grow.alloc ?_ _ | refine Grow.set ?_ (by first | exact Nat.le_refl _ | (simp; done) | (simp; omega) | omega) _ | exact And.left (by assumption) | refine Grow.trans ?_ (by assumption)))⟩
  go_wp2
  go_ret
  exact ⟨_, rfl, .inr ⟨by omega, by unfold cCol; omega, by unfold smCol; trivial⟩, (by repeat (with_reducible first | exact Grow.refl _ | assumption | refine Grow.drew ?_ | refine Grow.alloc ?_ _ | refine Grow.set ?_ (by first | exact Nat.le_refl _ | (simp; done) | (simp; omega) | omega) _ | exact And.left (by assumption) | refine Grow.trans ?_ (by assumption)))⟩
theorem szColS_any {A : Option Addr} {len cap : Nat} {xs : List Col} (left : Int) (w : World) (h : IsSl Kd.col w (· < w.heap.size) A len cap xs) (l0 : 0 ≤ left) (l1 : left ≤ 1048576) :
    Calls Tryz.prog 100 #[.slice A len cap, .int .i64 left] w (SzRes left (cntL cCol xs) (SmL smCol xs) w) := by
  have hlen : len ≤ maxLen := Nat.le_trans h.2.1 h.2.2.1
  have HX := Lib.hid h.1
  unfold maxLen at hlen
  go_enter Tryz.func100, Tryz.ntmps100
  go_wp2
  · go_ret
    exact ⟨-1, rfl, .inl rfl, Grow.refl _⟩
  have hlen' : len ≤ 1048576 := by omega
  go_loopw [1, 4, 5] (fun l _ i wr => ∃ (k : Nat) (r : Int), k ≤ len ∧ i = .int .i64 k ∧ l = .int .i64 r ∧ 0 ≤ r ∧ r + (len : Int) + ((cSum cCol (xs.take k) : Nat) : Int) ≤ left ∧ SmTo smCol xs k ∧ Grow w wr) (fun _ _ i _ => len - (intOf i).toNat)
  case atStart => exact ⟨0, _, Nat.zero_le _, rfl, rfl, by omega, by simp only [List.take_zero, cSum, List.map_nil, List.sum_nil]; omega, SmTo.zero _ _, Grow.refl _⟩
  case round =>
    obtain ⟨k, r, hk, rfl, rfl, hr0, hr1, hsm, hg⟩ := hrel
    by_cases hlt : k < len
    · obtain ⟨b, off, x, rfl, hx, _, hb, zname, zdflt, c0, c1, c2, c3, c4, c5, hrd⟩ := col_at (h.grow hg) hlt
      go_wp2_with fail
      refine (szCol_any r _ x _ hrd hr0 (by omega)).mono ?_
      rintro e w1 ⟨r1, rfl, hr, hb⟩
      have hsm1 : r1 = -1 ∨ smCol x := by rcases hr with h | h; exact .inl h; exact .inr h.2.2
      have hct := Lib.hid (cSum_take cCol hx.out)
      go_wp2
      · go_ret
        exact ⟨-1, rfl, .inl rfl, hg.trans hb⟩
      · go_roundw
        case rel => exact ⟨k + 1, r1, by omega, by go_num, rfl, by omega, by rw [hct.out]; omega, hsm.succ hx.out (hsm1.resolve_left (by omega)), hg.trans hb⟩
        case measure => simp [intOf]; omega
    · go_wp2
      go_ret
      exact ⟨r, rfl, .inr ⟨hr0, by rw [cSum_done _ (by rw [HX.out]; omega)] at hr1; rw [cntL, HX.out]; omega, hsm.done (by rw [HX.out]; omega) (by rw [HX.out]; exact hlen')⟩, hg⟩
set_option maxHeartbeats 1000000 in
theorem toCol_any (cs : List Value) (x : Col) (w : World) (h : Kd.col.rd w (· < w.heap.size) cs x) (hsm : smCol x) :
    Calls Tryz.prog 174 #[.agg cs.toArray] w (ToRes Kd.col x w) := by
  obtain ⟨rfl, zname, zdflt⟩ := h
  go_enter Tryz.func174, Tryz.ntmps174
  go_wp2_with fail
  generalize hW : World.alloc _ _ = W
  have t := Three.of hW
  clear hW
  refine (toVal_any _ _ _ _).mono ?_
  rintro e w0 ⟨rfl, hb0⟩
  replace t := t.call hb0
  obtain ⟨k0, f0⟩ := free_of t.b0
  obtain ⟨k1, f1⟩ := free_of t.b1
  obtain ⟨k2, f2⟩ := free_of t.b2
  have s0 := t.s0
  have s1 := t.s1
  have s2 := t.s2
  go_wp2
  clear k0 k1 k2 f0 f1 f2 s0 s1 s2
  replace t := t.put 3 (.int .i64 x.dflt.kind)
  replace t := t.put 4 (.int .i64 x.dflt.n)
  replace t := t.put 5 (.string x.dflt.s)
  replace t := t.put1 0 (.string x.name)
  replace t := t.put1 1 (.int .i64 x.kind)
  replace t := t.put1 2 (.bool x.notNull)
  replace t := t.put1 3 (.int .i64 x.dflt.kind)
  replace t := t.put1 4 (.int .i64 x.dflt.n)
  replace t := t.put1 5 (.string x.dflt.s)
  generalize hV : World.setCell _ _ _ = V at t  ⊢
  clear hV
  replace t : Three w V _ #[.string x.name, .int .i64 x.kind, .bool x.notNull, .int .i64 x.dflt.kind, .int .i64 x.dflt.n, .string x.dflt.s] _ _ _ _ := t
  have k1 := (free_of t.b1).1
  have s1 := t.s1
  exact bodyPost_ret (v := .agg #[.string x.name, .int .i64 x.kind, .bool x.notNull, .int .i64 x.dflt.kind, .int .i64 x.dflt.n, .string x.dflt.s]) (by simp [results, Tryz.results174, go_sem, k1, s1]) rfl ⟨[.string x.name, .int .i64 x.kind, .bool x.notNull, .int .i64 x.dflt.kind, .int .i64 x.dflt.n, .string x.dflt.s], rfl, ⟨rfl, zname, zdflt⟩, t.grow⟩
theorem info_col : (Tryz.prog.info? 74).map (fun i => (i.zero, i.size, i.bytes)) = some (some (.agg #[.string ⟨#[]⟩, .int .i64 0, .bool false, .int .i64 0, .int .i64 0, .string ⟨#[]⟩]), 6, 64) := by kernel_rfl
theorem toColS_any {A : Option Addr} {len cap : Nat} {xs : List Col} (w : World) (h : IsSl Kd.col w (· < w.heap.size) A len cap xs) (hsm : SmL smCol xs) :
    Calls Tryz.prog 108 #[.slice A len cap] w (SlRes Kd.col xs w) := by
  have hl : len ≤ 1048576 := by rw [← h.1]; exact hsm.1
  have hlen : len ≤ maxLen := Nat.le_trans h.2.1 h.2.2.1
  have hby : 64 * len ≤ 281474976710656 := by omega
  have HB := Lib.hid hby
  have HL := Lib.hid hlen
  have HX := Lib.hid h.1
  clear hby hl
  obtain ⟨i0, hi, hz0, hz1, hz2⟩ := info_parts info_col
  unfold maxLen at hlen
  go_enter Tryz.func108, Tryz.ntmps108
  go_wp2_with (at_make; refine wpList_make_full _ rfl _ _ 47 rfl w.heap.size 74 i0 _ 6 Tryz.underlying47 hi hz0 hz1 .i64 .i64 _ _ len rfl rfl rfl rfl (by rw [hz2]; exact HB.out) HL.out (Nat.le_refl _) ?_; intro w0 hown hgrow)
  have hG : Grow w w0 := Below.grown (Below.refl _ _) hgrow (Nat.le_refl _) (fun k hk => by cases hk)
  have hF : Fill Kd.col 74 w.heap.size w0 w.heap.size len 0 xs := Fill.start rfl hown
  have hwg : w.heap.size ≤ w.heap.size := Nat.le_refl _
  clear hown hgrow hi hz0 hz1 hz2
  go_loopw [4] (fun i wr => ∃ k : Nat, k ≤ len ∧ i = .int .i64 k ∧ Grow w wr ∧ Fill Kd.col 74 w.heap.size wr w.heap.size len k xs) (fun i _ => len - (intOf i).toNat)
  case atStart => exact ⟨0, Nat.zero_le _, rfl, hG, hF⟩
  case round =>
    obtain ⟨k, hk, rfl, hg, hF⟩ := hrel
    by_cases hlt : k < len
    · obtain ⟨b, off, x, rfl, hx, _, hb, zname, zdflt, c0, c1, c2, c3, c4, c5, hrd⟩ := col_at (h.grow hg) hlt
      go_wp2_with fail
      refine (toCol_any _ x _ hrd (hsm.2 x (mem_of_at hx.out))).mono ?_
      rintro e w1 ⟨cs1, rfl, hrd1, hb⟩
      have hF1 := hF.grow hb
      have hlg := hF.lt
      have hgb := hg.trans hb
      have ff := hF1.free
      have hrd2 := Lib.hid (Kd.col.mono hrd1 (S' := fun b => Fresh w.heap.size w1 b ∧ b ≠ w.heap.size) (fun b hb => ⟨hb.low hg.size, by have := hb.1; omega⟩) (fun _ _ => rfl))
      obtain ⟨rfl, zname1, zdflt1⟩ := hrd1
      obtain ⟨u0, d0⟩ := hF1.there (i := k) (j := 0) hlt (by decide)
      obtain ⟨u1, d1⟩ := hF1.there (i := k) (j := 1) hlt (by decide)
      obtain ⟨u2, d2⟩ := hF1.there (i := k) (j := 2) hlt (by decide)
      obtain ⟨u3, d3⟩ := hF1.there (i := k) (j := 3) hlt (by decide)
      obtain ⟨u4, d4⟩ := hF1.there (i := k) (j := 4) hlt (by decide)
      obtain ⟨u5, d5⟩ := hF1.there (i := k) (j := 5) hlt (by decide)
      simp only [Kd.col, Nat.add_zero] at d0 d1 d2 d3 d4 d5
      have key := Lib.hid (hF1.put hlt hx.out (cs := [.string x.name, .int .i64 x.kind, .bool x.notNull, .int .i64 x.dflt.kind, .int .i64 x.dflt.n, .string x.dflt.s]) hrd2.out)
      simp only [setL, show Kd.col.n = 6 from rfl, Nat.add_assoc, Nat.reduceAdd] at key
      go_wp2
      go_roundw
      case rel => exact ⟨k + 1, by omega, by go_num, (by repeat (with_reducible first | exact Grow.refl _ | assumption | refine Grow.drew ?_ | refine Grow.alloc ?_ _ | refine Grow.set ?_ (by first | exact Nat.le_refl _ | (simp; done) | (simp; omega) | omega) _ | exact And.left (by assumption) | refine Grow.trans ?_ (by assumption))), key.out⟩
      case measure => simp [intOf]; omega
    · go_wp2
      have hk' : k = len := by omega
      subst hk'
      go_ret
      exact ⟨_, k, k, rfl, hF.done HX.out HL.out, hg⟩
theorem eqCol_any (cs cs' : List Value) (x : Col) (w : World) (h : Kd.col.rd w (· < w.heap.size) cs x) (h' : Kd.col.rd w (· < w.heap.size) cs' x) :
    Calls Tryz.prog 183 #[.agg cs.toArray, .agg cs'.toArray] w (Ret w (.bool true)) := by
  obtain ⟨rfl, zname, zdflt⟩ := h
  obtain ⟨rfl, zname', zdflt'⟩ := h'
  go_enter Tryz.func183, Tryz.ntmps183
  go_wp2_with fail
  generalize hW : World.alloc (World.alloc w _) _ = W
  obtain ⟨hg, hs, hs', k1, k2⟩ := boxed2 hW
  clear hW
  have hcur := Grow.refl W
  have hc := hcur.same
  go_wp2_with (first | (go_at_call 219; (with_reducible refine (eqVal_any _ _ _ _).mono ?_); rintro e w1 ⟨rfl, hb⟩; replace hcur := hcur.trans hb; replace hc := hcur.same; clear hb))
  go_ret
  exact ⟨rfl, (by repeat (with_reducible first | exact Grow.refl _ | assumption | refine Grow.drew ?_ | refine Grow.alloc ?_ _ | refine Grow.set ?_ (by first | exact Nat.le_refl _ | (simp; done) | (simp; omega) | omega) _ | exact And.left (by assumption) | refine Grow.trans ?_ (by assumption)))⟩
theorem eqColS_any {A A' : Option Addr} {len len' cap cap' : Nat} {xs : List Col} (w : World) (h : IsSl Kd.col w (· < w.heap.size) A len cap xs) (h' : IsSl Kd.col w (· < w.heap.size) A' len' cap' xs) :
    Calls Tryz.prog 116 #[.slice A len cap, .slice A' len' cap'] w (Ret w (.bool true)) := by
  have hll : len' = len := h'.1.symm.trans h.1
  subst hll
  have hlen : len' ≤ maxLen := Nat.le_trans h.2.1 h.2.2.1
  unfold maxLen at hlen
  go_enter Tryz.func116, Tryz.ntmps116
  go_wp2
  go_loopw [5] (fun i wr => ∃ k : Nat, k ≤ len' ∧ i = .int .i64 k ∧ Grow w wr) (fun i _ => len' - (intOf i).toNat)
  case atStart => exact ⟨0, Nat.zero_le _, rfl, Grow.refl _⟩
  case round =>
    obtain ⟨k, hk, rfl, hg⟩ := hrel
    by_cases hlt : k < len'
    · obtain ⟨b, off, x, rfl, hx, _, hb, zname, zdflt, c0, c1, c2, c3, c4, c5, hrd⟩ := col_at (h.grow hg) hlt
      obtain ⟨b', off', x', rfl, hx', _, hb', zname', zdflt', d0, d1, d2, d3, d4, d5, hrd'⟩ := col_at (h'.grow hg) hlt
      obtain rfl : x = x' := Option.some.inj (hx.out.symm.trans hx'.out)
      have i0 : (0 : Int) ≤ (k : Int) := Int.natCast_nonneg k
      have i1 : (k : Int) < (len' : Int) := Int.ofNat_lt.mpr hlt
      go_wp2
      go_region_held3 (fun w' => Grow wr w' ∧ Same wr w') (exact Grow.both (by repeat (with_reducible first | exact Grow.refl _ | assumption | refine Grow.drew ?_ | refine Grow.alloc ?_ _ | refine Grow.set ?_ (by first | exact Nat.le_refl _ | (simp; done) | (simp; omega) | omega) _ | exact And.left (by assumption) | refine Grow.trans ?_ (by assumption)))) (first | (go_at_call 183; refine (eqCol_any _ _ x _ (Kd.col.grow hrd (And.left (by assumption))) (Kd.col.grow hrd' (And.left (by assumption)))).mono ?_; rintro e w2 ⟨rfl, hb⟩))
      obtain ⟨hcur, hc⟩ : Grow wr w2 ∧ Same wr w2 := by assumption
      go_wp2
      go_roundw
      case rel => exact ⟨k + 1, by omega, by go_num, hg.trans hcur⟩
      case measure => simp [intOf]; omega
    · go_wp2
      go_ret
      exact ⟨rfl, hg⟩
theorem szUnique_any (left : Int) (cs : List Value) (x : Unique) (w : World) (h : Kd.unique.rd w (· < w.heap.size) cs x) (l0 : 0 ≤ left) (l1 : left ≤ 1048576) :
    Calls Tryz.prog 168 #[.agg cs.toArray, .int .i64 left] w (SzRes left (cUnique x) (smUnique x) w) := by
  obtain ⟨Acols, Lcols, Ccols, rfl, scols⟩ := h
  go_enter Tryz.func168, Tryz.ntmps168
  go_wp2_with fail
  generalize hW : World.alloc w _ = W
  obtain ⟨hg, hs', k1⟩ := boxed1 hW
  clear hW
  have hcur := Grow.refl W
  refine (szInt64S_any _ _ (scols.grow (hg.trans hcur)) (by omega) (by omega)).mono ?_
  rintro e w0 ⟨r0, rfl, hr0, hb0⟩
  replace hcur := hcur.trans hb0
  have hc := hcur.same
  have hgc := hg.trans hcur
  rcases hr0 with rfl | hr0
  · go_wp2
    go_ret
    exact ⟨-1, rfl, .inl rfl, (by repeat (with_reducible first | exact Grow.refl _ | assumption | refine Grow.drew ?_ | refine Grow.alloc ?_ _ | refine Grow.set ?_ (by first | exact Nat.le_refl _ | (simp; done) | (simp; omega) | omega) _ | exact And.left (by assumption) | refine Grow.trans ?_ (by assumption)))⟩
  go_wp2
  go_ret
  exact ⟨_, rfl, .inr ⟨by omega, by unfold cUnique; omega, by unfold smUnique; exact hr0.2.2⟩, (by repeat (with_reducible first | exact Grow.refl _ | assumption | refine Grow.drew ?_ | refine Grow.alloc ?_ _ | refine Grow.set ?_ (by first | exact Nat.le_refl _ | (simp; done) | (simp; omega) | omega) _ | exact And.left (by assumption) | refine Grow.trans ?_ (by assumption)))⟩
theorem szUniqueS_any {A : Option Addr} {len cap : Nat} {xs : List Unique} (left : Int) (w : World) (h : IsSl Kd.unique w (· < w.heap.size) A len cap xs) (l0 : 0 ≤ left) (l1 : left ≤ 1048576) :
    Calls Tryz.prog 102 #[.slice A len cap, .int .i64 left] w (SzRes left (cntL cUnique xs) (SmL smUnique xs) w) := by
  have hlen : len ≤ maxLen := Nat.le_trans h.2.1 h.2.2.1
  have HX := Lib.hid h.1
  unfold maxLen at hlen
  go_enter Tryz.func102, Tryz.ntmps102
  go_wp2
  · go_ret
    exact ⟨-1, rfl, .inl rfl, Grow.refl _⟩
  have hlen' : len ≤ 1048576 := by omega
  go_loopw [1, 4, 5] (fun l _ i wr => ∃ (k : Nat) (r : Int), k ≤ len ∧ i = .int .i64 k ∧ l = .int .i64 r ∧ 0 ≤ r ∧ r + (len : Int) + ((cSum cUnique (xs.take k) : Nat) : Int) ≤ left ∧ SmTo smUnique xs k ∧ Grow w wr) (fun _ _ i _ => len - (intOf i).toNat)
  case atStart => exact ⟨0, _, Nat.zero_le _, rfl, rfl, by omega, by simp only [List.take_zero, cSum, List.map_nil, List.sum_nil]; omega, SmTo.zero _ _, Grow.refl _⟩
  case round =>
    obtain ⟨k, r, hk, rfl, rfl, hr0, hr1, hsm, hg⟩ := hrel
    by_cases hlt : k < len
    · obtain ⟨b, off, x, Acols, Lcols, Ccols, rfl, hx, _, hb, c0, scols, hrd⟩ := unique_at (h.grow hg) hlt
      go_wp2_with fail
      refine (szUnique_any r _ x _ hrd hr0 (by omega)).mono ?_
      rintro e w1 ⟨r1, rfl, hr, hb⟩
      have hsm1 : r1 = -1 ∨ smUnique x := by rcases hr with h | h; exact .inl h; exact .inr h.2.2
      have hct := Lib.hid (cSum_take cUnique hx.out)
      go_wp2
      · go_ret
        exact ⟨-1, rfl, .inl rfl, hg.trans hb⟩
      · go_roundw
        case rel => exact ⟨k + 1, r1, by omega, by go_num, rfl, by omega, by rw [hct.out]; omega, hsm.succ hx.out (hsm1.resolve_left (by omega)), hg.trans hb⟩
        case measure => simp [intOf]; omega
    · go_wp2
      go_ret
      exact ⟨r, rfl, .inr ⟨hr0, by rw [cSum_done _ (by rw [HX.out]; omega)] at hr1; rw [cntL, HX.out]; omega, hsm.done (by rw [HX.out]; omega) (by rw [HX.out]; exact hlen')⟩, hg⟩
set_option maxHeartbeats 1000000 in
theorem toUnique_any (cs : List Value) (x : Unique) (w : World) (h : Kd.unique.rd w (· < w.heap.size) cs x) (hsm : smUnique x) :
    Calls Tryz.prog 175 #[.agg cs.toArray] w (ToRes Kd.unique x w) := by
  obtain ⟨Acols, Lcols, Ccols, rfl, scols⟩ := h
  go_enter Tryz.func175, Tryz.ntmps175
  go_wp2_with fail
  generalize hW : World.alloc _ _ = W
  have t := Three.of hW
  clear hW
  have hv0 := t.s2
  refine (toInt64S_any _ (scols.grow t.grow) hsm).mono ?_
  rintro e w0 ⟨Bcols, Mcols, Dcols, rfl, hcols, hb0⟩
  replace t := t.call hb0
  replace hcols := hcols.lower (B' := w.heap.size + 1 + 1 + 1) (by omega)
  obtain ⟨k0, f0⟩ := free_of t.b0
  obtain ⟨k1, f1⟩ := free_of t.b1
  obtain ⟨k2, f2⟩ := free_of t.b2
  have s0 := t.s0
  have s1 := t.s1
  have s2 := t.s2
  go_wp2
  clear k0 k1 k2 f0 f1 f2 s0 s1 s2
  replace t := t.put 0 (.slice Bcols Mcols Dcols)
  replace hcols := hcols.setLow (g := w.heap.size + 1 + 1) (o := 0) (x := .slice Bcols Mcols Dcols) (by omega)
  replace t := t.put1 0 (.slice Bcols Mcols Dcols)
  replace hcols := hcols.setLow (g := w.heap.size + 1) (o := 0) (x := .slice Bcols Mcols Dcols) (by omega)
  generalize hV : World.setCell _ _ _ = V at t hcols ⊢
  clear hV
  replace t : Three w V _ #[.slice Bcols Mcols Dcols] _ _ _ _ := t
  have k1 := (free_of t.b1).1
  have s1 := t.s1
  exact bodyPost_ret (v := .agg #[.slice Bcols Mcols Dcols]) (by simp [results, Tryz.results175, go_sem, k1, s1]) rfl ⟨[.slice Bcols Mcols Dcols], rfl, ⟨_, _, _, rfl, hcols.lower (by omega)⟩, t.grow⟩
theorem info_unique : (Tryz.prog.info? 80).map (fun i => (i.zero, i.size, i.bytes)) = some (some (.agg #[.slice none 0 0]), 1, 24) := by kernel_rfl
theorem toUniqueS_any {A : Option Addr} {len cap : Nat} {xs : List Unique} (w : World) (h : IsSl Kd.unique w (· < w.heap.size) A len cap xs) (hsm : SmL smUnique xs) :
    Calls Tryz.prog 110 #[.slice A len cap] w (SlRes Kd.unique xs w) := by
  have hl : len ≤ 1048576 := by rw [← h.1]; exact hsm.1
  have hlen : len ≤ maxLen := Nat.le_trans h.2.1 h.2.2.1
  have hby : 24 * len ≤ 281474976710656 := by omega
  have HB := Lib.hid hby
  have HL := Lib.hid hlen
  have HX := Lib.hid h.1
  clear hby hl
  obtain ⟨i0, hi, hz0, hz1, hz2⟩ := info_parts info_unique
  unfold maxLen at hlen
  go_enter Tryz.func110, Tryz.ntmps110
  go_wp2_with (at_make; refine wpList_make_full _ rfl _ _ 49 rfl w.heap.size 80 i0 _ 1 Tryz.underlying49 hi hz0 hz1 .i64 .i64 _ _ len rfl rfl rfl rfl (by rw [hz2]; exact HB.out) HL.out (Nat.le_refl _) ?_; intro w0 hown hgrow)
  have hG : Grow w w0 := Below.grown (Below.refl _ _) hgrow (Nat.le_refl _) (fun k hk => by cases hk)
  have hF : Fill Kd.unique 80 w.heap.size w0 w.heap.size len 0 xs := Fill.start rfl hown
  have hwg : w.heap.size ≤ w.heap.size := Nat.le_refl _
  clear hown hgrow hi hz0 hz1 hz2
  go_loopw [4] (fun i wr => ∃ k : Nat, k ≤ len ∧ i = .int .i64 k ∧ Grow w wr ∧ Fill Kd.unique 80 w.heap.size wr w.heap.size len k xs) (fun i _ => len - (intOf i).toNat)
  case atStart => exact ⟨0, Nat.zero_le _, rfl, hG, hF⟩
  case round =>
    obtain ⟨k, hk, rfl, hg, hF⟩ := hrel
    by_cases hlt : k < len
    · obtain ⟨b, off, x, Acols, Lcols, Ccols, rfl, hx, _, hb, c0, scols, hrd⟩ := unique_at (h.grow hg) hlt
      go_wp2_with fail
      refine (toUnique_any _ x _ hrd (hsm.2 x (mem_of_at hx.out))).mono ?_
      rintro e w1 ⟨cs1, rfl, hrd1, hb⟩
      have hF1 := hF.grow hb
      have hlg := hF.lt
      have hgb := hg.trans hb
      have ff := hF1.free
      have hrd2 := Lib.hid (Kd.unique.mono hrd1 (S' := fun b => Fresh w.heap.size w1 b ∧ b ≠ w.heap.size) (fun b hb => ⟨hb.low hg.size, by have := hb.1; omega⟩) (fun _ _ => rfl))
      obtain ⟨Acols1, Lcols1, Ccols1, rfl, scols1⟩ := hrd1
      obtain ⟨u0, d0⟩ := hF1.there (i := k) (j := 0) hlt (by decide)
      simp only [Kd.unique, Nat.add_zero, Nat.mul_one] at d0
      have key := Lib.hid (hF1.put hlt hx.out (cs := [.slice Acols1 Lcols1 Ccols1]) hrd2.out)
      simp only [setL, show Kd.unique.n = 1 from rfl, Nat.add_assoc, Nat.mul_one] at key
      go_wp2
      go_roundw
      case rel => exact ⟨k + 1, by omega, by go_num, (by repeat (with_reducible first | exact Grow.refl _ | assumption | refine Grow.drew ?_ | refine Grow.alloc ?_ _ | refine Grow.set ?_ (by first | exact Nat.le_refl _ | (simp; done) | (simp; omega) | omega) _ | exact And.left (by assumption) | refine Grow.trans ?_ (by assumption))), key.out⟩
      case measure => simp [intOf]; omega
    · go_wp2
      have hk' : k = len := by omega
      subst hk'
      go_ret
      exact ⟨_, k, k, rfl, hF.done HX.out HL.out, hg⟩
theorem eqUnique_any (cs cs' : List Value) (x : Unique) (w : World) (h : Kd.unique.rd w (· < w.heap.size) cs x) (h' : Kd.unique.rd w (· < w.heap.size) cs' x) :
    Calls Tryz.prog 184 #[.agg cs.toArray, .agg cs'.toArray] w (Ret w (.bool true)) := by
  obtain ⟨Acols, Lcols, Ccols, rfl, scols⟩ := h
  obtain ⟨Acols', Lcols', Ccols', rfl, scols'⟩ := h'
  go_enter Tryz.func184, Tryz.ntmps184
  go_wp2_with fail
  generalize hW : World.alloc (World.alloc w _) _ = W
  obtain ⟨hg, hs, hs', k1, k2⟩ := boxed2 hW
  clear hW
  have hcur := Grow.refl W
  have hc := hcur.same
  go_wp2_with (first | (go_at_call 117; (with_reducible refine (eqInt64S_any _ (scols.grow (hg.trans hcur)) (scols'.grow (hg.trans hcur))).mono ?_); rintro e w1 ⟨rfl, hb⟩; replace hcur := hcur.trans hb; replace hc := hcur.same; clear hb))
  go_ret
  exact ⟨rfl, (by repeat (with_reducible first | exact Grow.refl _ | assumption | refine Grow.drew ?_ | refine Grow.alloc ?_ _ | refine Grow.set ?_ (by first | exact Nat.le_refl _ | (simp; done) | (simp; omega) | omega) _ | exact And.left (by assumption) | refine Grow.trans ?_ (by assumption)))⟩
theorem eqUniqueS_any {A A' : Option Addr} {len len' cap cap' : Nat} {xs : List Unique} (w : World) (h : IsSl Kd.unique w (· < w.heap.size) A len cap xs) (h' : IsSl Kd.unique w (· < w.heap.size) A' len' cap' xs) :
    Calls Tryz.prog 118 #[.slice A len cap, .slice A' len' cap'] w (Ret w (.bool true)) := by
  have hll : len' = len := h'.1.symm.trans h.1
  subst hll
  have hlen : len' ≤ maxLen := Nat.le_trans h.2.1 h.2.2.1
  unfold maxLen at hlen
  go_enter Tryz.func118, Tryz.ntmps118
  go_wp2
  go_loopw [5] (fun i wr => ∃ k : Nat, k ≤ len' ∧ i = .int .i64 k ∧ Grow w wr) (fun i _ => len' - (intOf i).toNat)
  case atStart => exact ⟨0, Nat.zero_le _, rfl, Grow.refl _⟩
  case round =>
    obtain ⟨k, hk, rfl, hg⟩ := hrel
    by_cases hlt : k < len'
    · obtain ⟨b, off, x, Acols, Lcols, Ccols, rfl, hx, _, hb, c0, scols, hrd⟩ := unique_at (h.grow hg) hlt
      obtain ⟨b', off', x', Acols', Lcols', Ccols', rfl, hx', _, hb', d0, scols', hrd'⟩ := unique_at (h'.grow hg) hlt
      obtain rfl : x = x' := Option.some.inj (hx.out.symm.trans hx'.out)
      have i0 : (0 : Int) ≤ (k : Int) := Int.natCast_nonneg k
      have i1 : (k : Int) < (len' : Int) := Int.ofNat_lt.mpr hlt
      go_wp2
      go_region_held3 (fun w' => Grow wr w' ∧ Same wr w') (exact Grow.both (by repeat (with_reducible first | exact Grow.refl _ | assumption | refine Grow.drew ?_ | refine Grow.alloc ?_ _ | refine Grow.set ?_ (by first | exact Nat.le_refl _ | (simp; done) | (simp; omega) | omega) _ | exact And.left (by assumption) | refine Grow.trans ?_ (by assumption)))) (first | (go_at_call 184; refine (eqUnique_any _ _ x _ (Kd.unique.grow hrd (And.left (by assumption))) (Kd.unique.grow hrd' (And.left (by assumption)))).mono ?_; rintro e w2 ⟨rfl, hb⟩))
      obtain ⟨hcur, hc⟩ : Grow wr w2 ∧ Same wr w2 := by assumption
      go_wp2
      go_roundw
      case rel => exact ⟨k + 1, by omega, by go_num, hg.trans hcur⟩
      case measure => simp [intOf]; omega
    · go_wp2
      go_ret
      exact ⟨rfl, hg⟩
theorem szCheck_any (left : Int) (cs : List Value) (x : Check) (w : World) (h : Kd.check.rd w (· < w.heap.size) cs x) (l0 : 0 ≤ left) (l1 : left ≤ 1048576) :
    Calls Tryz.prog 169 #[.agg cs.toArray, .int .i64 left] w (SzRes left (cCheck x) (smCheck x) w) := by
  obtain ⟨Aexpr, Lexpr, Cexpr, rfl, sexpr⟩ := h
  go_enter Tryz.func169, Tryz.ntmps169
  go_wp2_with fail
  generalize hW : World.alloc w _ = W
  obtain ⟨hg, hs', k1⟩ := boxed1 hW
  clear hW
  have hcur := Grow.refl W
  refine (szTokS_any _ _ (sexpr.grow (hg.trans hcur)) (by omega) (by omega)).mono ?_
  rintro e w0 ⟨r0, rfl, hr0, hb0⟩
  replace hcur := hcur.trans hb0
  have hc := hcur.same
  have hgc := hg.trans hcur
  rcases hr0 with rfl | hr0
  · go_wp2
    go_ret
    exact ⟨-1, rfl, .inl rfl, (by repeat (with_reducible first | exact Grow.refl _ | assumption | refine Grow.drew ?_ | refine Grow.alloc ?_ _ | refine Grow.set ?_ (by first | exact Nat.le_refl _ | (simp; done) | (simp; omega) | omega) _ | exact And.left (by assumption) | refine Grow.trans ?_ (by assumption)))⟩
  go_wp2
  go_ret
  exact ⟨_, rfl, .inr ⟨by omega, by unfold cCheck; omega, by unfold smCheck; exact hr0.2.2⟩, (by repeat (with_reducible first | exact Grow.refl _ | assumption | refine Grow.drew ?_ | refine Grow.alloc ?_ _ | refine Grow.set ?_ (by first | exact Nat.le_refl _ | (simp; done) | (simp; omega) | omega) _ | exact And.left (by assumption) | refine Grow.trans ?_ (by assumption)))⟩
theorem szCheckS_any {A : Option Addr} {len cap : Nat} {xs : List Check} (left : Int) (w : World) (h : IsSl Kd.check w (· < w.heap.size) A len cap xs) (l0 : 0 ≤ left) (l1 : left ≤ 1048576) :
    Calls Tryz.prog 103 #[.slice A len cap, .int .i64 left] w (SzRes left (cntL cCheck xs) (SmL smCheck xs) w) := by
  have hlen : len ≤ maxLen := Nat.le_trans h.2.1 h.2.2.1
  have HX := Lib.hid h.1
  unfold maxLen at hlen
  go_enter Tryz.func103, Tryz.ntmps103
  go_wp2
  · go_ret
    exact ⟨-1, rfl, .inl rfl, Grow.refl _⟩
  have hlen' : len ≤ 1048576 := by omega
  go_loopw [1, 4, 5] (fun l _ i wr => ∃ (k : Nat) (r : Int), k ≤ len ∧ i = .int .i64 k ∧ l = .int .i64 r ∧ 0 ≤ r ∧ r + (len : Int) + ((cSum cCheck (xs.take k) : Nat) : Int) ≤ left ∧ SmTo smCheck xs k ∧ Grow w wr) (fun _ _ i _ => len - (intOf i).toNat)
  case atStart => exact ⟨0, _, Nat.zero_le _, rfl, rfl, by omega, by simp only [List.take_zero, cSum, List.map_nil, List.sum_nil]; omega, SmTo.zero _ _, Grow.refl _⟩
  case round =>
    obtain ⟨k, r, hk, rfl, rfl, hr0, hr1, hsm, hg⟩ := hrel
    by_cases hlt : k < len
    · obtain ⟨b, off, x, Aexpr, Lexpr, Cexpr, rfl, hx, _, hb, c0, sexpr, hrd⟩ := check_at (h.grow hg) hlt
      go_wp2_with fail
      refine (szCheck_any r _ x _ hrd hr0 (by omega)).mono ?_
      rintro e w1 ⟨r1, rfl, hr, hb⟩
      have hsm1 : r1 = -1 ∨ smCheck x := by rcases hr with h | h; exact .inl h; exact .inr h.2.2
      have hct := Lib.hid (cSum_take cCheck hx.out)
      go_wp2
      · go_ret
        exact ⟨-1, rfl, .inl rfl, hg.trans hb⟩
      · go_roundw
        case rel => exact ⟨k + 1, r1, by omega, by go_num, rfl, by omega, by rw [hct.out]; omega, hsm.succ hx.out (hsm1.resolve_left (by omega)), hg.trans hb⟩
        case measure => simp [intOf]; omega
    · go_wp2
      go_ret
      exact ⟨r, rfl, .inr ⟨hr0, by rw [cSum_done _ (by rw [HX.out]; omega)] at hr1; rw [cntL, HX.out]; omega, hsm.done (by rw [HX.out]; omega) (by rw [HX.out]; exact hlen')⟩, hg⟩
set_option maxHeartbeats 1000000 in
theorem toCheck_any (cs : List Value) (x : Check) (w : World) (h : Kd.check.rd w (· < w.heap.size) cs x) (hsm : smCheck x) :
    Calls Tryz.prog 176 #[.agg cs.toArray] w (ToRes Kd.check x w) := by
  obtain ⟨Aexpr, Lexpr, Cexpr, rfl, sexpr⟩ := h
  go_enter Tryz.func176, Tryz.ntmps176
  go_wp2_with fail
  generalize hW : World.alloc _ _ = W
  have t := Three.of hW
  clear hW
  have hv0 := t.s2
  refine (toTokS_any _ (sexpr.grow t.grow) hsm).mono ?_
  rintro e w0 ⟨Bexpr, Mexpr, Dexpr, rfl, hexpr, hb0⟩
  replace t := t.call hb0
  replace hexpr := hexpr.lower (B' := w.heap.size + 1 + 1 + 1) (by omega)
  obtain ⟨k0, f0⟩ := free_of t.b0
  obtain ⟨k1, f1⟩ := free_of t.b1
  obtain ⟨k2, f2⟩ := free_of t.b2
  have s0 := t.s0
  have s1 := t.s1
  have s2 := t.s2
  go_wp2
  clear k0 k1 k2 f0 f1 f2 s0 s1 s2
  replace t := t.put 0 (.slice Bexpr Mexpr Dexpr)
  replace hexpr := hexpr.setLow (g := w.heap.size + 1 + 1) (o := 0) (x := .slice Bexpr Mexpr Dexpr) (by omega)
  replace t := t.put1 0 (.slice Bexpr Mexpr Dexpr)
  replace hexpr := hexpr.setLow (g := w.heap.size + 1) (o := 0) (x := .slice Bexpr Mexpr Dexpr) (by omega)
  generalize hV : World.setCell _ _ _ = V at t hexpr ⊢
  clear hV
  replace t : Three w V _ #[.slice Bexpr Mexpr Dexpr] _ _ _ _ := t
  have k1 := (free_of t.b1).1
  have s1 := t.s1
  exact bodyPost_ret (v := .agg #[.slice Bexpr Mexpr Dexpr]) (by simp [results, Tryz.results176, go_sem, k1, s1]) rfl ⟨[.slice Bexpr Mexpr Dexpr], rfl, ⟨_, _, _, rfl, hexpr.lower (by omega)⟩, t.grow⟩
theorem info_check : (Tryz.prog.info? 78).map (fun i => (i.zero, i.size, i.bytes)) = some (some (.agg #[.slice none 0 0]), 1, 24) := by kernel_rfl
theorem toCheckS_any {A : Option Addr} {len cap : Nat} {xs : List Check} (w : World) (h : IsSl Kd.check w (· < w.heap.size) A len cap xs) (hsm : SmL smCheck xs) :
    Calls Tryz.prog 111 #[.slice A len cap] w (SlRes Kd.check xs w) := by
  have hl : len ≤ 1048576 := by rw [← h.1]; exact hsm.1
  have hlen : len ≤ maxLen := Nat.le_trans h.2.1 h.2.2.1
  have hby : 24 * len ≤ 281474976710656 := by omega
  have HB := Lib.hid hby
  have HL := Lib.hid hlen
  have HX := Lib.hid h.1
  clear hby hl
  obtain ⟨i0, hi, hz0, hz1, hz2⟩ := info_parts info_check
  unfold maxLen at hlen
  go_enter Tryz.func111, Tryz.ntmps111
  go_wp2_with (at_make; refine wpList_make_full _ rfl _ _ 50 rfl w.heap.size 78 i0 _ 1 Tryz.underlying50 hi hz0 hz1 .i64 .i64 _ _ len rfl rfl rfl rfl (by rw [hz2]; exact HB.out) HL.out (Nat.le_refl _) ?_; intro w0 hown hgrow)
  have hG : Grow w w0 := Below.grown (Below.refl _ _) hgrow (Nat.le_refl _) (fun k hk => by cases hk)
  have hF : Fill Kd.check 78 w.heap.size w0 w.heap.size len 0 xs := Fill.start rfl hown
  have hwg : w.heap.size ≤ w.heap.size := Nat.le_refl _
  clear hown hgrow hi hz0 hz1 hz2
  go_loopw [4] (fun i wr => ∃ k : Nat, k ≤ len ∧ i = .int .i64 k ∧ Grow w wr ∧ Fill Kd.check 78 w.heap.size wr w.heap.size len k xs) (fun i _ => len - (intOf i).toNat)
  case atStart => exact ⟨0, Nat.zero_le _, rfl, hG, hF⟩
  case round =>
    obtain ⟨k, hk, rfl, hg, hF⟩ := hrel
    by_cases hlt : k < len
    · obtain ⟨b, off, x, Aexpr, Lexpr, Cexpr, rfl, hx, _, hb, c0, sexpr, hrd⟩ := check_at (h.grow hg) hlt
      go_wp2_with fail
      refine (toCheck_any _ x _ hrd (hsm.2 x (mem_of_at hx.out))).mono ?_
      rintro e w1 ⟨cs1, rfl, hrd1, hb⟩
      have hF1 := hF.grow hb
      have hlg := hF.lt
      have hgb := hg.trans hb
      have ff := hF1.free
      have hrd2 := Lib.hid (Kd.check.mono hrd1 (S' := fun b => Fresh w.heap.size w1 b ∧ b ≠ w.heap.size) (fun b hb => ⟨hb.low hg.size, by have := hb.1; omega⟩) (fun _ _ => rfl))
      obtain ⟨Aexpr1, Lexpr1, Cexpr1, rfl, sexpr1⟩ := hrd1
      obtain ⟨u0, d0⟩ := hF1.there (i := k) (j := 0) hlt (by decide)
      simp only [Kd.check, Nat.add_zero, Nat.mul_one] at d0
      have key := Lib.hid (hF1.put hlt hx.out (cs := [.slice Aexpr1 Lexpr1 Cexpr1]) hrd2.out)
      simp only [setL, show Kd.check.n = 1 from rfl, Nat.add_assoc, Nat.mul_one] at key
      go_wp2
      go_roundw
      case rel => exact ⟨k + 1, by omega, by go_num, (by repeat (with_reducible first | exact Grow.refl _ | assumption | refine Grow.drew ?_ | refine Grow.alloc ?_ _ | refine Grow.set ?_ (by first | exact Nat.le_refl _ | (simp; done) | (simp; omega) | omega) _ | exact And.left (by assumption) | refine Grow.trans ?_ (by assumption))), key.out⟩
      case measure => simp [intOf]; omega
    · go_wp2
      have hk' : k = len := by omega
      subst hk'
      go_ret
      exact ⟨_, k, k, rfl, hF.done HX.out HL.out, hg⟩
theorem eqCheck_any (cs cs' : List Value) (x : Check) (w : World) (h : Kd.check.rd w (· < w.heap.size) cs x) (h' : Kd.check.rd w (· < w.heap.size) cs' x) :
    Calls Tryz.prog 185 #[.agg cs.toArray, .agg cs'.toArray] w (Ret w (.bool true)) := by
  obtain ⟨Aexpr, Lexpr, Cexpr, rfl, sexpr⟩ := h
  obtain ⟨Aexpr', Lexpr', Cexpr', rfl, sexpr'⟩ := h'
  go_enter Tryz.func185, Tryz.ntmps185
  go_wp2_with fail
  generalize hW : World.alloc (World.alloc w _) _ = W
  obtain ⟨hg, hs, hs', k1, k2⟩ := boxed2 hW
  clear hW
  have hcur := Grow.refl W
  have hc := hcur.same
  go_wp2_with (first | (go_at_call 220; (with_reducible refine (eqTokS_any _ (sexpr.grow (hg.trans hcur)) (sexpr'.grow (hg.trans hcur))).mono ?_); rintro e w1 ⟨rfl, hb⟩; replace hcur := hcur.trans hb; replace hc := hcur.same; clear hb))
  go_ret
  exact ⟨rfl, (by repeat (with_reducible first | exact Grow.refl _ | assumption | refine Grow.drew ?_ | refine Grow.alloc ?_ _ | refine Grow.set ?_ (by first | exact Nat.le_refl _ | (simp; done) | (simp; omega) | omega) _ | exact And.left (by assumption) | refine Grow.trans ?_ (by assumption)))⟩
theorem eqCheckS_any {A A' : Option Addr} {len len' cap cap' : Nat} {xs : List Check} (w : World) (h : IsSl Kd.check w (· < w.heap.size) A len cap xs) (h' : IsSl Kd.check w (· < w.heap.size) A' len' cap' xs) :
    Calls Tryz.prog 119 #[.slice A len cap, .slice A' len' cap'] w (Ret w (.bool true)) := by
  have hll : len' = len := h'.1.symm.trans h.1
  subst hll
  have hlen : len' ≤ maxLen := Nat.le_trans h.2.1 h.2.2.1
  unfold maxLen at hlen
  go_enter Tryz.func119, Tryz.ntmps119
  go_wp2
  go_loopw [5] (fun i wr => ∃ k : Nat, k ≤ len' ∧ i = .int .i64 k ∧ Grow w wr) (fun i _ => len' - (intOf i).toNat)
  case atStart => exact ⟨0, Nat.zero_le _, rfl, Grow.refl _⟩
  case round =>
    obtain ⟨k, hk, rfl, hg⟩ := hrel
    by_cases hlt : k < len'
    · obtain ⟨b, off, x, Aexpr, Lexpr, Cexpr, rfl, hx, _, hb, c0, sexpr, hrd⟩ := check_at (h.grow hg) hlt
      obtain ⟨b', off', x', Aexpr', Lexpr', Cexpr', rfl, hx', _, hb', d0, sexpr', hrd'⟩ := check_at (h'.grow hg) hlt
      obtain rfl : x = x' := Option.some.inj (hx.out.symm.trans hx'.out)
      have i0 : (0 : Int) ≤ (k : Int) := Int.natCast_nonneg k
      have i1 : (k : Int) < (len' : Int) := Int.ofNat_lt.mpr hlt
      go_wp2
      go_region_held3 (fun w' => Grow wr w' ∧ Same wr w') (exact Grow.both (by repeat (with_reducible first | exact Grow.refl _ | assumption | refine Grow.drew ?_ | refine Grow.alloc ?_ _ | refine Grow.set ?_ (by first | exact Nat.le_refl _ | (simp; done) | (simp; omega) | omega) _ | exact And.left (by assumption) | refine Grow.trans ?_ (by assumption)))) (first | (go_at_call 185; refine (eqCheck_any _ _ x _ (Kd.check.grow hrd (And.left (by assumption))) (Kd.check.grow hrd' (And.left (by assumption)))).mono ?_; rintro e w2 ⟨rfl, hb⟩))
      obtain ⟨hcur, hc⟩ : Grow wr w2 ∧ Same wr w2 := by assumption
      go_wp2
      go_roundw
      case rel => exact ⟨k + 1, by omega, by go_num, hg.trans hcur⟩
      case measure => simp [intOf]; omega
    · go_wp2
      go_ret
      exact ⟨rfl, hg⟩
theorem szFk_any (left : Int) (cs : List Value) (x : Fk) (w : World) (h : Kd.fk.rd w (· < w.heap.size) cs x) (l0 : 0 ≤ left) (l1 : left ≤ 1048576) :
    Calls Tryz.prog 170 #[.agg cs.toArray, .int .i64 left] w (SzRes left (cFk x) (smFk x) w) := by
  obtain ⟨Acols, Lcols, Ccols, rfl, ztable, scols⟩ := h
  have ytable := Lib.hid ztable
  unfold maxLen at ztable
  go_enter Tryz.func170, Tryz.ntmps170
  go_wp2_with fail
  generalize hW : World.alloc w _ = W
  obtain ⟨hg, hs', k1⟩ := boxed1 hW
  clear hW
  have hcur := Grow.refl W
  refine (szInt64S_any _ _ (scols.grow (hg.trans hcur)) (by omega) (by omega)).mono ?_
  rintro e w0 ⟨r0, rfl, hr0, hb0⟩
  replace hcur := hcur.trans hb0
  have hc := hcur.same
  have hgc := hg.trans hcur
  rcases hr0 with rfl | hr0
  · go_wp2
    go_ret
    exact ⟨-1, rfl, .inl rfl, (by repeat (with_reducible first | exact Grow.refl _ | assumption | refine Grow.drew ?_ | refine Grow.alloc ?_ _ | refine Grow.set ?_ (by first | exact Nat.le_refl _ | (simp; done) | (simp; omega) | omega) _ | exact And.left (by assumption) | refine Grow.trans ?_ (by assumption)))⟩
  go_wp2
  · go_ret
    exact ⟨-1, rfl, .inl rfl, (by repeat (with_reducible first | exact Grow.refl _ | assumption | refine Grow.drew ?_ | refine Grow.alloc ?_ _ | refine Grow.set ?_ (by first | exact Nat.le_refl _ | (simp; done) | (simp; omega) | omega) _ | exact And.left (by assumption) | refine Grow.trans ?_ (by assumption)))⟩
  go_ret
  exact ⟨_, rfl, .inr ⟨by omega, by unfold cFk; omega, by unfold smFk; exact hr0.2.2⟩, (by repeat (with_reducible first | exact Grow.refl _ | assumption | refine Grow.drew ?_ | refine Grow.alloc ?_ _ | refine Grow.set ?_ (by first | exact Nat.le_refl _ | (simp; done) | (simp; omega) | omega) _ | exact And.left (by assumption) | refine Grow.trans ?_ (by assumption)))⟩
theorem szFkS_any {A : Option Addr} {len cap : Nat} {xs : List Fk} (left : Int) (w : World) (h : IsSl Kd.fk w (· < w.heap.size) A len cap xs) (l0 : 0 ≤ left) (l1 : left ≤ 1048576) :
    Calls Tryz.prog 104 #[.slice A len cap, .int .i64 left] w (SzRes left (cntL cFk xs) (SmL smFk xs) w) := by
  have hlen : len ≤ maxLen := Nat.le_trans h.2.1 h.2.2.1
  have HX := Lib.hid h.1
  unfold maxLen at hlen
  go_enter Tryz.func104, Tryz.ntmps104
  go_wp2
  · go_ret
    exact ⟨-1, rfl, .inl rfl, Grow.refl _⟩
  have hlen' : len ≤ 1048576 := by omega
  go_loopw [1, 4, 5] (fun l _ i wr => ∃ (k : Nat) (r : Int), k ≤ len ∧ i = .int .i64 k ∧ l = .int .i64 r ∧ 0 ≤ r ∧ r + (len : Int) + ((cSum cFk (xs.take k) : Nat) : Int) ≤ left ∧ SmTo smFk xs k ∧ Grow w wr) (fun _ _ i _ => len - (intOf i).toNat)
  case atStart => exact ⟨0, _, Nat.zero_le _, rfl, rfl, by omega, by simp only [List.take_zero, cSum, List.map_nil, List.sum_nil]; omega, SmTo.zero _ _, Grow.refl _⟩
  case round =>
    obtain ⟨k, r, hk, rfl, rfl, hr0, hr1, hsm, hg⟩ := hrel
    by_cases hlt : k < len
    · obtain ⟨b, off, x, Acols, Lcols, Ccols, rfl, hx, _, hb, ztable, c0, c1, c2, c3, c4, scols, hrd⟩ := fk_at (h.grow hg) hlt
      go_wp2_with fail
      refine (szFk_any r _ x _ hrd hr0 (by omega)).mono ?_
      rintro e w1 ⟨r1, rfl, hr, hb⟩
      have hsm1 : r1 = -1 ∨ smFk x := by rcases hr with h | h; exact .inl h; exact .inr h.2.2
      have hct := Lib.hid (cSum_take cFk hx.out)
      go_wp2
      · go_ret
        exact ⟨-1, rfl, .inl rfl, hg.trans hb⟩
      · go_roundw
        case rel => exact ⟨k + 1, r1, by omega, by go_num, rfl, by omega, by rw [hct.out]; omega, hsm.succ hx.out (hsm1.resolve_left (by omega)), hg.trans hb⟩
        case measure => simp [intOf]; omega
    · go_wp2
      go_ret
      exact ⟨r, rfl, .inr ⟨hr0, by rw [cSum_done _ (by rw [HX.out]; omega)] at hr1; rw [cntL, HX.out]; omega, hsm.done (by rw [HX.out]; omega) (by rw [HX.out]; exact hlen')⟩, hg⟩
set_option maxHeartbeats 1000000 in
theorem toFk_any (cs : List Value) (x : Fk) (w : World) (h : Kd.fk.rd w (· < w.heap.size) cs x) (hsm : smFk x) :
    Calls Tryz.prog 177 #[.agg cs.toArray] w (ToRes Kd.fk x w) := by
  obtain ⟨Acols, Lcols, Ccols, rfl, ztable, scols⟩ := h
  go_enter Tryz.func177, Tryz.ntmps177
  go_wp2_with fail
  generalize hW : World.alloc _ _ = W
  have t := Three.of hW
  clear hW
  have hv0 := t.s2
  refine (toInt64S_any _ (scols.grow t.grow) hsm).mono ?_
  rintro e w0 ⟨Bcols, Mcols, Dcols, rfl, hcols, hb0⟩
  replace t := t.call hb0
  replace hcols := hcols.lower (B' := w.heap.size + 1 + 1 + 1) (by omega)
  obtain ⟨k0, f0⟩ := free_of t.b0
  obtain ⟨k1, f1⟩ := free_of t.b1
  obtain ⟨k2, f2⟩ := free_of t.b2
  have s0 := t.s0
  have s1 := t.s1
  have s2 := t.s2
  go_wp2
  clear k0 k1 k2 f0 f1 f2 s0 s1 s2
  replace t := t.put 0 (.slice Bcols Mcols Dcols)
  replace hcols := hcols.setLow (g := w.heap.size + 1 + 1) (o := 0) (x := .slice Bcols Mcols Dcols) (by omega)
  replace t := t.put 1 (.string x.table)
  replace hcols := hcols.setLow (g := w.heap.size + 1 + 1) (o := 1) (x := .string x.table) (by omega)
  replace t := t.put 2 (.int .i64 x.onDelete)
  replace hcols := hcols.setLow (g := w.heap.size + 1 + 1) (o := 2) (x := .int .i64 x.onDelete) (by omega)
  replace t := t.put 3 (.int .i64 x.onUpdate)
  replace hcols := hcols.setLow (g := w.heap.size + 1 + 1) (o := 3) (x := .int .i64 x.onUpdate) (by omega)
  replace t := t.put 4 (.bool x.deferred)
  replace hcols := hcols.setLow (g := w.heap.size + 1 + 1) (o := 4) (x := .bool x.deferred) (by omega)
  replace t := t.put1 0 (.slice Bcols Mcols Dcols)
  replace hcols := hcols.setLow (g := w.heap.size + 1) (o := 0) (x := .slice Bcols Mcols Dcols) (by omega)
  replace t := t.put1 1 (.string x.table)
  replace hcols := hcols.setLow (g := w.heap.size + 1) (o := 1) (x := .string x.table) (by omega)
  replace t := t.put1 2 (.int .i64 x.onDelete)
  replace hcols := hcols.setLow (g := w.heap.size + 1) (o := 2) (x := .int .i64 x.onDelete) (by omega)
  replace t := t.put1 3 (.int .i64 x.onUpdate)
  replace hcols := hcols.setLow (g := w.heap.size + 1) (o := 3) (x := .int .i64 x.onUpdate) (by omega)
  replace t := t.put1 4 (.bool x.deferred)
  replace hcols := hcols.setLow (g := w.heap.size + 1) (o := 4) (x := .bool x.deferred) (by omega)
  generalize hV : World.setCell _ _ _ = V at t hcols ⊢
  clear hV
  replace t : Three w V _ #[.slice Bcols Mcols Dcols, .string x.table, .int .i64 x.onDelete, .int .i64 x.onUpdate, .bool x.deferred] _ _ _ _ := t
  have k1 := (free_of t.b1).1
  have s1 := t.s1
  exact bodyPost_ret (v := .agg #[.slice Bcols Mcols Dcols, .string x.table, .int .i64 x.onDelete, .int .i64 x.onUpdate, .bool x.deferred]) (by simp [results, Tryz.results177, go_sem, k1, s1]) rfl ⟨[.slice Bcols Mcols Dcols, .string x.table, .int .i64 x.onDelete, .int .i64 x.onUpdate, .bool x.deferred], rfl, ⟨_, _, _, rfl, ztable, hcols.lower (by omega)⟩, t.grow⟩
theorem info_fk : (Tryz.prog.info? 82).map (fun i => (i.zero, i.size, i.bytes)) = some (some (.agg #[.slice none 0 0, .string ⟨#[]⟩, .int .i64 0, .int .i64 0, .bool false]), 5, 64) := by kernel_rfl
theorem toFkS_any {A : Option Addr} {len cap : Nat} {xs : List Fk} (w : World) (h : IsSl Kd.fk w (· < w.heap.size) A len cap xs) (hsm : SmL smFk xs) :
    Calls Tryz.prog 112 #[.slice A len cap] w (SlRes Kd.fk xs w) := by
  have hl : len ≤ 1048576 := by rw [← h.1]; exact hsm.1
  have hlen : len ≤ maxLen := Nat.le_trans h.2.1 h.2.2.1
  have hby : 64 * len ≤ 281474976710656 := by omega
  have HB := Lib.hid hby
  have HL := Lib.hid hlen
  have HX := Lib.hid h.1
  clear hby hl
  obtain ⟨i0, hi, hz0, hz1, hz2⟩ := info_parts info_fk
  unfold maxLen at hlen
  go_enter Tryz.func112, Tryz.ntmps112
  go_wp2_with (at_make; refine wpList_make_full _ rfl _ _ 51 rfl w.heap.size 82 i0 _ 5 Tryz.underlying51 hi hz0 hz1 .i64 .i64 _ _ len rfl rfl rfl rfl (by rw [hz2]; exact HB.out) HL.out (Nat.le_refl _) ?_; intro w0 hown hgrow)
  have hG : Grow w w0 := Below.grown (Below.refl _ _) hgrow (Nat.le_refl _) (fun k hk => by cases hk)
  have hF : Fill Kd.fk 82 w.heap.size w0 w.heap.size len 0 xs := Fill.start rfl hown
  have hwg : w.heap.size ≤ w.heap.size := Nat.le_refl _
  clear hown hgrow hi hz0 hz1 hz2
  go_loopw [4] (fun i wr => ∃ k : Nat, k ≤ len ∧ i = .int .i64 k ∧ Grow w wr ∧ Fill Kd.fk 82 w.heap.size wr w.heap.size len k xs) (fun i _ => len - (intOf i).toNat)
  case atStart => exact ⟨0, Nat.zero_le _, rfl, hG, hF⟩
  case round =>
    obtain ⟨k, hk, rfl, hg, hF⟩ := hrel
    by_cases hlt : k < len
    · obtain ⟨b, off, x, Acols, Lcols, Ccols, rfl, hx, _, hb, ztable, c0, c1, c2, c3, c4, scols, hrd⟩ := fk_at (h.grow hg) hlt
      go_wp2_with fail
      refine (toFk_any _ x _ hrd (hsm.2 x (mem_of_at hx.out))).mono ?_
      rintro e w1 ⟨cs1, rfl, hrd1, hb⟩
      have hF1 := hF.grow hb
      have hlg := hF.lt
      have hgb := hg.trans hb
      have ff := hF1.free
      have hrd2 := Lib.hid (Kd.fk.mono hrd1 (S' := fun b => Fresh w.heap.size w1 b ∧ b ≠ w.heap.size) (fun b hb => ⟨hb.low hg.size, by have := hb.1; omega⟩) (fun _ _ => rfl))
      obtain ⟨Acols1, Lcols1, Ccols1, rfl, ztable1, scols1⟩ := hrd1
      obtain ⟨u0, d0⟩ := hF1.there (i := k) (j := 0) hlt (by decide)
      obtain ⟨u1, d1⟩ := hF1.there (i := k) (j := 1) hlt (by decide)
      obtain ⟨u2, d2⟩ := hF1.there (i := k) (j := 2) hlt (by decide)
      obtain ⟨u3, d3⟩ := hF1.there (i := k) (j := 3) hlt (by decide)
      obtain ⟨u4, d4⟩ := hF1.there (i := k) (j := 4) hlt (by decide)
      simp only [Kd.fk, Nat.add_zero] at d0 d1 d2 d3 d4
      have key := Lib.hid (hF1.put hlt hx.out (cs := [.slice Acols1 Lcols1 Ccols1, .string x.table, .int .i64 x.onDelete, .int .i64 x.onUpdate, .bool x.deferred]) hrd2.out)
      simp only [setL, show Kd.fk.n = 5 from rfl, Nat.add_assoc, Nat.reduceAdd] at key
      go_wp2
      go_roundw
      case rel => exact ⟨k + 1, by omega, by go_num, (by repeat (with_reducible first | exact Grow.refl _ | assumption | refine Grow.drew ?_ | refine Grow.alloc ?_ _ | refine Grow.set ?_ (by first | exact Nat.le_refl _ | (simp; done) | (simp; omega) | omega) _ | exact And.left (by assumption) | refine Grow.trans ?_ (by assumption))), key.out⟩
      case measure => simp [intOf]; omega
    · go_wp2
      have hk' : k = len := by omega
      subst hk'
      go_ret
      exact ⟨_, k, k, rfl, hF.done HX.out HL.out, hg⟩
theorem eqFk_any (cs cs' : List Value) (x : Fk) (w : World) (h : Kd.fk.rd w (· < w.heap.size) cs x) (h' : Kd.fk.rd w (· < w.heap.size) cs' x) :
    Calls Tryz.prog 186 #[.agg cs.toArray, .agg cs'.toArray] w (Ret w (.bool true)) := by
  obtain ⟨Acols, Lcols, Ccols, rfl, ztable, scols⟩ := h
  obtain ⟨Acols', Lcols', Ccols', rfl, ztable', scols'⟩ := h'
  go_enter Tryz.func186, Tryz.ntmps186
  go_wp2_with fail
  generalize hW : World.alloc (World.alloc w _) _ = W
  obtain ⟨hg, hs, hs', k1, k2⟩ := boxed2 hW
  clear hW
  have hcur := Grow.refl W
  have hc := hcur.same
  go_wp2_with (first | (go_at_call 117; (with_reducible refine (eqInt64S_any _ (scols.grow (hg.trans hcur)) (scols'.grow (hg.trans hcur))).mono ?_); rintro e w1 ⟨rfl, hb⟩; replace hcur := hcur.trans hb; replace hc := hcur.same; clear hb))
  go_ret
  exact ⟨rfl, (by repeat (with_reducible first | exact Grow.refl _ | assumption | refine Grow.drew ?_ | refine Grow.alloc ?_ _ | refine Grow.set ?_ (by first | exact Nat.le_refl _ | (simp; done) | (simp; omega) | omega) _ | exact And.left (by assumption) | refine Grow.trans ?_ (by assumption)))⟩
theorem eqFkS_any {A A' : Option Addr} {len len' cap cap' : Nat} {xs : List Fk} (w : World) (h : IsSl Kd.fk w (· < w.heap.size) A len cap xs) (h' : IsSl Kd.fk w (· < w.heap.size) A' len' cap' xs) :
    Calls Tryz.prog 120 #[.slice A len cap, .slice A' len' cap'] w (Ret w (.bool true)) := by
  have hll : len' = len := h'.1.symm.trans h.1
  subst hll
  have hlen : len' ≤ maxLen := Nat.le_trans h.2.1 h.2.2.1
  unfold maxLen at hlen
  go_enter Tryz.func120, Tryz.ntmps120
  go_wp2
  go_loopw [5] (fun i wr => ∃ k : Nat, k ≤ len' ∧ i = .int .i64 k ∧ Grow w wr) (fun i _ => len' - (intOf i).toNat)
  case atStart => exact ⟨0, Nat.zero_le _, rfl, Grow.refl _⟩
  case round =>
    obtain ⟨k, hk, rfl, hg⟩ := hrel
    by_cases hlt : k < len'
    · obtain ⟨b, off, x, Acols, Lcols, Ccols, rfl, hx, _, hb, ztable, c0, c1, c2, c3, c4, scols, hrd⟩ := fk_at (h.grow hg) hlt
      obtain ⟨b', off', x', Acols', Lcols', Ccols', rfl, hx', _, hb', ztable', d0, d1, d2, d3, d4, scols', hrd'⟩ := fk_at (h'.grow hg) hlt
      obtain rfl : x = x' := Option.some.inj (hx.out.symm.trans hx'.out)
      have i0 : (0 : Int) ≤ (k : Int) := Int.natCast_nonneg k
      have i1 : (k : Int) < (len' : Int) := Int.ofNat_lt.mpr hlt
      go_wp2
      go_region_held3 (fun w' => Grow wr w' ∧ Same wr w') (exact Grow.both (by repeat (with_reducible first | exact Grow.refl _ | assumption | refine Grow.drew ?_ | refine Grow.alloc ?_ _ | refine Grow.set ?_ (by first | exact Nat.le_refl _ | (simp; done) | (simp; omega) | omega) _ | exact And.left (by assumption) | refine Grow.trans ?_ (by assumption)))) (first | (go_at_call 186; refine (eqFk_any _ _ x _ (Kd.fk.grow hrd (And.left (by assumption))) (Kd.fk.grow hrd' (And.left (by assumption)))).mono ?_; rintro e w2 ⟨rfl, hb⟩))
      obtain ⟨hcur, hc⟩ : Grow wr w2 ∧ Same wr w2 := by assumption
      go_wp2
      go_roundw
      case rel => exact ⟨k + 1, by omega, by go_num, hg.trans hcur⟩
      case measure => simp [intOf]; omega
    · go_wp2
      go_ret
      exact ⟨rfl, hg⟩
theorem szTable_any (left : Int) (cs : List Value) (x : Table) (w : World) (h : Kd.table.rd w (· < w.heap.size) cs x) (l0 : 0 ≤ left) (l1 : left ≤ 1048576) :
    Calls Tryz.prog 50 #[.agg cs.toArray, .int .i64 left] w (SzRes left (cTable x) (smTable x) w) := by
  obtain ⟨Acols, Lcols, Ccols, Akey, Lkey, Ckey, Auniques, Luniques, Cuniques, Achecks, Lchecks, Cchecks, Afks, Lfks, Cfks, rfl, zname, scols, skey, suniques, schecks, sfks⟩ := h
  have yname := Lib.hid zname
  unfold maxLen at zname
  go_enter Tryz.func50, Tryz.ntmps50
  go_wp2_with fail
  · go_ret
    exact ⟨-1, rfl, .inl rfl, (by repeat (with_reducible first | exact Grow.refl _ | assumption | refine Grow.drew ?_ | refine Grow.alloc ?_ _ | refine Grow.set ?_ (by first | exact Nat.le_refl _ | (simp; done) | (simp; omega) | omega) _ | exact And.left (by assumption) | refine Grow.trans ?_ (by assumption)))⟩
  generalize hW : World.alloc w _ = W
  obtain ⟨hg, hs', k1⟩ := boxed1 hW
  clear hW
  have hcur := Grow.refl W
  refine (szColS_any _ _ (scols.grow (hg.trans hcur)) (by omega) (by omega)).mono ?_
  rintro e w0 ⟨r0, rfl, hr0, hb0⟩
  replace hcur := hcur.trans hb0
  have hc := hcur.same
  have hgc := hg.trans hcur
  rcases hr0 with rfl | hr0
  · go_wp2
    go_ret
    exact ⟨-1, rfl, .inl rfl, (by repeat (with_reducible first | exact Grow.refl _ | assumption | refine Grow.drew ?_ | refine Grow.alloc ?_ _ | refine Grow.set ?_ (by first | exact Nat.le_refl _ | (simp; done) | (simp; omega) | omega) _ | exact And.left (by assumption) | refine Grow.trans ?_ (by assumption)))⟩
  go_wp2_with fail
  refine (szInt64S_any _ _ (skey.grow (hg.trans hcur)) (by omega) (by omega)).mono ?_
  rintro e w1 ⟨r1, rfl, hr1, hb1⟩
  replace hcur := hcur.trans hb1
  have hc := hcur.same
  have hgc := hg.trans hcur
  rcases hr1 with rfl | hr1
  · go_wp2
    go_ret
    exact ⟨-1, rfl, .inl rfl, (by repeat (with_reducible first | exact Grow.refl _ | assumption | refine Grow.drew ?_ | refine Grow.alloc ?_ _ | refine Grow.set ?_ (by first | exact Nat.le_refl _ | (simp; done) | (simp; omega) | omega) _ | exact And.left (by assumption) | refine Grow.trans ?_ (by assumption)))⟩
  go_wp2_with fail
  refine (szUniqueS_any _ _ (suniques.grow (hg.trans hcur)) (by omega) (by omega)).mono ?_
  rintro e w2 ⟨r2, rfl, hr2, hb2⟩
  replace hcur := hcur.trans hb2
  have hc := hcur.same
  have hgc := hg.trans hcur
  rcases hr2 with rfl | hr2
  · go_wp2
    go_ret
    exact ⟨-1, rfl, .inl rfl, (by repeat (with_reducible first | exact Grow.refl _ | assumption | refine Grow.drew ?_ | refine Grow.alloc ?_ _ | refine Grow.set ?_ (by first | exact Nat.le_refl _ | (simp; done) | (simp; omega) | omega) _ | exact And.left (by assumption) | refine Grow.trans ?_ (by assumption)))⟩
  go_wp2_with fail
  refine (szCheckS_any _ _ (schecks.grow (hg.trans hcur)) (by omega) (by omega)).mono ?_
  rintro e w3 ⟨r3, rfl, hr3, hb3⟩
  replace hcur := hcur.trans hb3
  have hc := hcur.same
  have hgc := hg.trans hcur
  rcases hr3 with rfl | hr3
  · go_wp2
    go_ret
    exact ⟨-1, rfl, .inl rfl, (by repeat (with_reducible first | exact Grow.refl _ | assumption | refine Grow.drew ?_ | refine Grow.alloc ?_ _ | refine Grow.set ?_ (by first | exact Nat.le_refl _ | (simp; done) | (simp; omega) | omega) _ | exact And.left (by assumption) | refine Grow.trans ?_ (by assumption)))⟩
  go_wp2_with fail
  refine (szFkS_any _ _ (sfks.grow (hg.trans hcur)) (by omega) (by omega)).mono ?_
  rintro e w4 ⟨r4, rfl, hr4, hb4⟩
  replace hcur := hcur.trans hb4
  have hc := hcur.same
  have hgc := hg.trans hcur
  rcases hr4 with rfl | hr4
  · go_wp2
    go_ret
    exact ⟨-1, rfl, .inl rfl, (by repeat (with_reducible first | exact Grow.refl _ | assumption | refine Grow.drew ?_ | refine Grow.alloc ?_ _ | refine Grow.set ?_ (by first | exact Nat.le_refl _ | (simp; done) | (simp; omega) | omega) _ | exact And.left (by assumption) | refine Grow.trans ?_ (by assumption)))⟩
  go_wp2
  go_ret
  exact ⟨_, rfl, .inr ⟨by omega, by unfold cTable; omega, by unfold smTable; exact ⟨hr0.2.2, hr1.2.2, hr2.2.2, hr3.2.2, hr4.2.2⟩⟩, (by repeat (with_reducible first | exact Grow.refl _ | assumption | refine Grow.drew ?_ | refine Grow.alloc ?_ _ | refine Grow.set ?_ (by first | exact Nat.le_refl _ | (simp; done) | (simp; omega) | omega) _ | exact And.left (by assumption) | refine Grow.trans ?_ (by assumption)))⟩
theorem szTableS_any {A : Option Addr} {len cap : Nat} {xs : List Table} (left : Int) (w : World) (h : IsSl Kd.table w (· < w.heap.size) A len cap xs) (l0 : 0 ≤ left) (l1 : left ≤ 1048576) :
    Calls Tryz.prog 12 #[.slice A len cap, .int .i64 left] w (SzRes left (cntL cTable xs) (SmL smTable xs) w) := by
  have hlen : len ≤ maxLen := Nat.le_trans h.2.1 h.2.2.1
  have HX := Lib.hid h.1
  unfold maxLen at hlen
  go_enter Tryz.func12, Tryz.ntmps12
  go_wp2
  · go_ret
    exact ⟨-1, rfl, .inl rfl, Grow.refl _⟩
  have hlen' : len ≤ 1048576 := by omega
  go_loopw [1, 4, 5] (fun l _ i wr => ∃ (k : Nat) (r : Int), k ≤ len ∧ i = .int .i64 k ∧ l = .int .i64 r ∧ 0 ≤ r ∧ r + (len : Int) + ((cSum cTable (xs.take k) : Nat) : Int) ≤ left ∧ SmTo smTable xs k ∧ Grow w wr) (fun _ _ i _ => len - (intOf i).toNat)
  case atStart => exact ⟨0, _, Nat.zero_le _, rfl, rfl, by omega, by simp only [List.take_zero, cSum, List.map_nil, List.sum_nil]; omega, SmTo.zero _ _, Grow.refl _⟩
  case round =>
    obtain ⟨k, r, hk, rfl, rfl, hr0, hr1, hsm, hg⟩ := hrel
    by_cases hlt : k < len
    · obtain ⟨b, off, x, Acols, Lcols, Ccols, Akey, Lkey, Ckey, Auniques, Luniques, Cuniques, Achecks, Lchecks, Cchecks, Afks, Lfks, Cfks, rfl, hx, _, hb, zname, c0, c1, c2, c3, c4, c5, scols, skey, suniques, schecks, sfks, hrd⟩ := table_at (h.grow hg) hlt
      go_wp2_with fail
      refine (szTable_any r _ x _ hrd hr0 (by omega)).mono ?_
      rintro e w1 ⟨r1, rfl, hr, hb⟩
      have hsm1 : r1 = -1 ∨ smTable x := by rcases hr with h | h; exact .inl h; exact .inr h.2.2
      have hct := Lib.hid (cSum_take cTable hx.out)
      go_wp2
      · go_ret
        exact ⟨-1, rfl, .inl rfl, hg.trans hb⟩
      · go_roundw
        case rel => exact ⟨k + 1, r1, by omega, by go_num, rfl, by omega, by rw [hct.out]; omega, hsm.succ hx.out (hsm1.resolve_left (by omega)), hg.trans hb⟩
        case measure => simp [intOf]; omega
    · go_wp2
      go_ret
      exact ⟨r, rfl, .inr ⟨hr0, by rw [cSum_done _ (by rw [HX.out]; omega)] at hr1; rw [cntL, HX.out]; omega, hsm.done (by rw [HX.out]; omega) (by rw [HX.out]; exact hlen')⟩, hg⟩
set_option maxHeartbeats 1000000 in
theorem toTable_any (cs : List Value) (x : Table) (w : World) (h : Kd.table.rd w (· < w.heap.size) cs x) (hsm : smTable x) :
    Calls Tryz.prog 53 #[.agg cs.toArray] w (ToRes Kd.table x w) := by
  obtain ⟨Acols, Lcols, Ccols, Akey, Lkey, Ckey, Auniques, Luniques, Cuniques, Achecks, Lchecks, Cchecks, Afks, Lfks, Cfks, rfl, zname, scols, skey, suniques, schecks, sfks⟩ := h
  go_enter Tryz.func53, Tryz.ntmps53
  go_wp2_with fail
  generalize hW : World.alloc _ _ = W
  have t := Three.of hW
  clear hW
  have hv0 := t.s2
  refine (toColS_any _ (scols.grow t.grow) hsm.1).mono ?_
  rintro e w0 ⟨Bcols, Mcols, Dcols, rfl, hcols, hb0⟩
  replace t := t.call hb0
  replace hcols := hcols.lower (B' := w.heap.size + 1 + 1 + 1) (by omega)
  obtain ⟨k0, f0⟩ := free_of t.b0
  obtain ⟨k1, f1⟩ := free_of t.b1
  obtain ⟨k2, f2⟩ := free_of t.b2
  have s0 := t.s0
  have s1 := t.s1
  have s2 := t.s2
  go_wp2_with fail
  clear k0 k1 k2 f0 f1 f2 s0 s1 s2
  replace t := t.put 1 (.slice Bcols Mcols Dcols)
  replace hcols := hcols.setLow (g := w.heap.size + 1 + 1) (o := 1) (x := .slice Bcols Mcols Dcols) (by omega)
  generalize hV : World.setCell _ _ _ = V0 at t hcols ⊢
  clear hV
  replace t : Three w V0 _ _ #[.string x.name, .slice Bcols Mcols Dcols, .slice none 0 0, .slice none 0 0, .slice none 0 0, .slice none 0 0] _ _ _ := t
  have hv1 := t.s2
  refine (toInt64S_any _ (skey.grow t.grow) hsm.2.1).mono ?_
  rintro e w1 ⟨Bkey, Mkey, Dkey, rfl, hkey, hb1⟩
  replace t := t.call hb1
  replace hcols := hcols.on hb1
  replace hkey := hkey.lower (B' := w.heap.size + 1 + 1 + 1) (by omega)
  obtain ⟨k0, f0⟩ := free_of t.b0
  obtain ⟨k1, f1⟩ := free_of t.b1
  obtain ⟨k2, f2⟩ := free_of t.b2
  have s0 := t.s0
  have s1 := t.s1
  have s2 := t.s2
  go_wp2_with fail
  clear k0 k1 k2 f0 f1 f2 s0 s1 s2
  replace t := t.put 2 (.slice Bkey Mkey Dkey)
  replace hcols := hcols.setLow (g := w.heap.size + 1 + 1) (o := 2) (x := .slice Bkey Mkey Dkey) (by omega)
  replace hkey := hkey.setLow (g := w.heap.size + 1 + 1) (o := 2) (x := .slice Bkey Mkey Dkey) (by omega)
  generalize hV : World.setCell _ _ _ = V1 at t hcols hkey ⊢
  clear hV
  replace t : Three w V1 _ _ #[.string x.name, .slice Bcols Mcols Dcols, .slice Bkey Mkey Dkey, .slice none 0 0, .slice none 0 0, .slice none 0 0] _ _ _ := t
  have hv2 := t.s2
  refine (toUniqueS_any _ (suniques.grow t.grow) hsm.2.2.1).mono ?_
  rintro e w2 ⟨Buniques, Muniques, Duniques, rfl, huniques, hb2⟩
  replace t := t.call hb2
  replace hcols := hcols.on hb2
  replace hkey := hkey.on hb2
  replace huniques := huniques.lower (B' := w.heap.size + 1 + 1 + 1) (by omega)
  obtain ⟨k0, f0⟩ := free_of t.b0
  obtain ⟨k1, f1⟩ := free_of t.b1
  obtain ⟨k2, f2⟩ := free_of t.b2
  have s0 := t.s0
  have s1 := t.s1
  have s2 := t.s2
  go_wp2_with fail
  clear k0 k1 k2 f0 f1 f2 s0 s1 s2
  replace t := t.put 3 (.slice Buniques Muniques Duniques)
  replace hcols := hcols.setLow (g := w.heap.size + 1 + 1) (o := 3) (x := .slice Buniques Muniques Duniques) (by omega)
  replace hkey := hkey.setLow (g := w.heap.size + 1 + 1) (o := 3) (x := .slice Buniques Muniques Duniques) (by omega)
  replace huniques := huniques.setLow (g := w.heap.size + 1 + 1) (o := 3) (x := .slice Buniques Muniques Duniques) (by omega)
  generalize hV : World.setCell _ _ _ = V2 at t hcols hkey huniques ⊢
  clear hV
  replace t : Three w V2 _ _ #[.string x.name, .slice Bcols Mcols Dcols, .slice Bkey Mkey Dkey, .slice Buniques Muniques Duniques, .slice none 0 0, .slice none 0 0] _ _ _ := t
  have hv3 := t.s2
  refine (toCheckS_any _ (schecks.grow t.grow) hsm.2.2.2.1).mono ?_
  rintro e w3 ⟨Bchecks, Mchecks, Dchecks, rfl, hchecks, hb3⟩
  replace t := t.call hb3
  replace hcols := hcols.on hb3
  replace hkey := hkey.on hb3
  replace huniques := huniques.on hb3
  replace hchecks := hchecks.lower (B' := w.heap.size + 1 + 1 + 1) (by omega)
  obtain ⟨k0, f0⟩ := free_of t.b0
  obtain ⟨k1, f1⟩ := free_of t.b1
  obtain ⟨k2, f2⟩ := free_of t.b2
  have s0 := t.s0
  have s1 := t.s1
  have s2 := t.s2
  go_wp2_with fail
  clear k0 k1 k2 f0 f1 f2 s0 s1 s2
  replace t := t.put 4 (.slice Bchecks Mchecks Dchecks)
  replace hcols := hcols.setLow (g := w.heap.size + 1 + 1) (o := 4) (x := .slice Bchecks Mchecks Dchecks) (by omega)
  replace hkey := hkey.setLow (g := w.heap.size + 1 + 1) (o := 4) (x := .slice Bchecks Mchecks Dchecks) (by omega)
  replace huniques := huniques.setLow (g := w.heap.size + 1 + 1) (o := 4) (x := .slice Bchecks Mchecks Dchecks) (by omega)
  replace hchecks := hchecks.setLow (g := w.heap.size + 1 + 1) (o := 4) (x := .slice Bchecks Mchecks Dchecks) (by omega)
  generalize hV : World.setCell _ _ _ = V3 at t hcols hkey huniques hchecks ⊢
  clear hV
  replace t : Three w V3 _ _ #[.string x.name, .slice Bcols Mcols Dcols, .slice Bkey Mkey Dkey, .slice Buniques Muniques Duniques, .slice Bchecks Mchecks Dchecks, .slice none 0 0] _ _ _ := t
  have hv4 := t.s2
  refine (toFkS_any _ (sfks.grow t.grow) hsm.2.2.2.2).mono ?_
  rintro e w4 ⟨Bfks, Mfks, Dfks, rfl, hfks, hb4⟩
  replace t := t.call hb4
  replace hcols := hcols.on hb4
  replace hkey := hkey.on hb4
  replace huniques := huniques.on hb4
  replace hchecks := hchecks.on hb4
  replace hfks := hfks.lower (B' := w.heap.size + 1 + 1 + 1) (by omega)
  obtain ⟨k0, f0⟩ := free_of t.b0
  obtain ⟨k1, f1⟩ := free_of t.b1
  obtain ⟨k2, f2⟩ := free_of t.b2
  have s0 := t.s0
  have s1 := t.s1
  have s2 := t.s2
  go_wp2
  clear k0 k1 k2 f0 f1 f2 s0 s1 s2
  replace t := t.put 5 (.slice Bfks Mfks Dfks)
  replace hcols := hcols.setLow (g := w.heap.size + 1 + 1) (o := 5) (x := .slice Bfks Mfks Dfks) (by omega)
  replace hkey := hkey.setLow (g := w.heap.size + 1 + 1) (o := 5) (x := .slice Bfks Mfks Dfks) (by omega)
  replace huniques := huniques.setLow (g := w.heap.size + 1 + 1) (o := 5) (x := .slice Bfks Mfks Dfks) (by omega)
  replace hchecks := hchecks.setLow (g := w.heap.size + 1 + 1) (o := 5) (x := .slice Bfks Mfks Dfks) (by omega)
  replace hfks := hfks.setLow (g := w.heap.size + 1 + 1) (o := 5) (x := .slice Bfks Mfks Dfks) (by omega)
  replace t := t.put1 0 (.string x.name)
  replace hcols := hcols.setLow (g := w.heap.size + 1) (o := 0) (x := .string x.name) (by omega)
  replace hkey := hkey.setLow (g := w.heap.size + 1) (o := 0) (x := .string x.name) (by omega)
  replace huniques := huniques.setLow (g := w.heap.size + 1) (o := 0) (x := .string x.name) (by omega)
  replace hchecks := hchecks.setLow (g := w.heap.size + 1) (o := 0) (x := .string x.name) (by omega)
  replace hfks := hfks.setLow (g := w.heap.size + 1) (o := 0) (x := .string x.name) (by omega)
  replace t := t.put1 1 (.slice Bcols Mcols Dcols)
  replace hcols := hcols.setLow (g := w.heap.size + 1) (o := 1) (x := .slice Bcols Mcols Dcols) (by omega)
  replace hkey := hkey.setLow (g := w.heap.size + 1) (o := 1) (x := .slice Bcols Mcols Dcols) (by omega)
  replace huniques := huniques.setLow (g := w.heap.size + 1) (o := 1) (x := .slice Bcols Mcols Dcols) (by omega)
  replace hchecks := hchecks.setLow (g := w.heap.size + 1) (o := 1) (x := .slice Bcols Mcols Dcols) (by omega)
  replace hfks := hfks.setLow (g := w.heap.size + 1) (o := 1) (x := .slice Bcols Mcols Dcols) (by omega)
  replace t := t.put1 2 (.slice Bkey Mkey Dkey)
  replace hcols := hcols.setLow (g := w.heap.size + 1) (o := 2) (x := .slice Bkey Mkey Dkey) (by omega)
  replace hkey := hkey.setLow (g := w.heap.size + 1) (o := 2) (x := .slice Bkey Mkey Dkey) (by omega)
  replace huniques := huniques.setLow (g := w.heap.size + 1) (o := 2) (x := .slice Bkey Mkey Dkey) (by omega)
  replace hchecks := hchecks.setLow (g := w.heap.size + 1) (o := 2) (x := .slice Bkey Mkey Dkey) (by omega)
  replace hfks := hfks.setLow (g := w.heap.size + 1) (o := 2) (x := .slice Bkey Mkey Dkey) (by omega)
  replace t := t.put1 3 (.slice Buniques Muniques Duniques)
  replace hcols := hcols.setLow (g := w.heap.size + 1) (o := 3) (x := .slice Buniques Muniques Duniques) (by omega)
  replace hkey := hkey.setLow (g := w.heap.size + 1) (o := 3) (x := .slice Buniques Muniques Duniques) (by omega)
  replace huniques := huniques.setLow (g := w.heap.size + 1) (o := 3) (x := .slice Buniques Muniques Duniques) (by omega)
  replace hchecks := hchecks.setLow (g := w.heap.size + 1) (o := 3) (x := .slice Buniques Muniques Duniques) (by omega)
  replace hfks := hfks.setLow (g := w.heap.size + 1) (o := 3) (x := .slice Buniques Muniques Duniques) (by omega)
  replace t := t.put1 4 (.slice Bchecks Mchecks Dchecks)
  replace hcols := hcols.setLow (g := w.heap.size + 1) (o := 4) (x := .slice Bchecks Mchecks Dchecks) (by omega)
  replace hkey := hkey.setLow (g := w.heap.size + 1) (o := 4) (x := .slice Bchecks Mchecks Dchecks) (by omega)
  replace huniques := huniques.setLow (g := w.heap.size + 1) (o := 4) (x := .slice Bchecks Mchecks Dchecks) (by omega)
  replace hchecks := hchecks.setLow (g := w.heap.size + 1) (o := 4) (x := .slice Bchecks Mchecks Dchecks) (by omega)
  replace hfks := hfks.setLow (g := w.heap.size + 1) (o := 4) (x := .slice Bchecks Mchecks Dchecks) (by omega)
  replace t := t.put1 5 (.slice Bfks Mfks Dfks)
  replace hcols := hcols.setLow (g := w.heap.size + 1) (o := 5) (x := .slice Bfks Mfks Dfks) (by omega)
  replace hkey := hkey.setLow (g := w.heap.size + 1) (o := 5) (x := .slice Bfks Mfks Dfks) (by omega)
  replace huniques := huniques.setLow (g := w.heap.size + 1) (o := 5) (x := .slice Bfks Mfks Dfks) (by omega)
  replace hchecks := hchecks.setLow (g := w.heap.size + 1) (o := 5) (x := .slice Bfks Mfks Dfks) (by omega)
  replace hfks := hfks.setLow (g := w.heap.size + 1) (o := 5) (x := .slice Bfks Mfks Dfks) (by omega)
  generalize hV : World.setCell _ _ _ = V at t hcols hkey huniques hchecks hfks ⊢
  clear hV
  replace t : Three w V _ #[.string x.name, .slice Bcols Mcols Dcols, .slice Bkey Mkey Dkey, .slice Buniques Muniques Duniques, .slice Bchecks Mchecks Dchecks, .slice Bfks Mfks Dfks] _ _ _ _ := t
  have k1 := (free_of t.b1).1
  have s1 := t.s1
  exact bodyPost_ret (v := .agg #[.string x.name, .slice Bcols Mcols Dcols, .slice Bkey Mkey Dkey, .slice Buniques Muniques Duniques, .slice Bchecks Mchecks Dchecks, .slice Bfks Mfks Dfks]) (by simp [results, Tryz.results53, go_sem, k1, s1]) rfl ⟨[.string x.name, .slice Bcols Mcols Dcols, .slice Bkey Mkey Dkey, .slice Buniques Muniques Duniques, .slice Bchecks Mchecks Dchecks, .slice Bfks Mfks Dfks], rfl, ⟨_, _, _, _, _, _, _, _, _, _, _, _, _, _, _, rfl, zname, hcols.lower (by omega), hkey.lower (by omega), huniques.lower (by omega), hchecks.lower (by omega), hfks.lower (by omega)⟩, t.grow⟩
theorem info_table : (Tryz.prog.info? 53).map (fun i => (i.zero, i.size, i.bytes)) = some (some (.agg #[.string ⟨#[]⟩, .slice none 0 0, .slice none 0 0, .slice none 0 0, .slice none 0 0, .slice none 0 0]), 6, 136) := by kernel_rfl
theorem toTableS_any {A : Option Addr} {len cap : Nat} {xs : List Table} (w : World) (h : IsSl Kd.table w (· < w.heap.size) A len cap xs) (hsm : SmL smTable xs) :
    Calls Tryz.prog 15 #[.slice A len cap] w (SlRes Kd.table xs w) := by
  have hl : len ≤ 1048576 := by rw [← h.1]; exact hsm.1
  have hlen : len ≤ maxLen := Nat.le_trans h.2.1 h.2.2.1
  have hby : 136 * len ≤ 281474976710656 := by omega
  have HB := Lib.hid hby
  have HL := Lib.hid hlen
  have HX := Lib.hid h.1
  clear hby hl
  obtain ⟨i0, hi, hz0, hz1, hz2⟩ := info_parts info_table
  unfold maxLen at hlen
  go_enter Tryz.func15, Tryz.ntmps15
  go_wp2_with (at_make; refine wpList_make_full _ rfl _ _ 27 rfl w.heap.size 53 i0 _ 6 Tryz.underlying27 hi hz0 hz1 .i64 .i64 _ _ len rfl rfl rfl rfl (by rw [hz2]; exact HB.out) HL.out (Nat.le_refl _) ?_; intro w0 hown hgrow)
  have hG : Grow w w0 := Below.grown (Below.refl _ _) hgrow (Nat.le_refl _) (fun k hk => by cases hk)
  have hF : Fill Kd.table 53 w.heap.size w0 w.heap.size len 0 xs := Fill.start rfl hown
  have hwg : w.heap.size ≤ w.heap.size := Nat.le_refl _
  clear hown hgrow hi hz0 hz1 hz2
  go_loopw [4] (fun i wr => ∃ k : Nat, k ≤ len ∧ i = .int .i64 k ∧ Grow w wr ∧ Fill Kd.table 53 w.heap.size wr w.heap.size len k xs) (fun i _ => len - (intOf i).toNat)
  case atStart => exact ⟨0, Nat.zero_le _, rfl, hG, hF⟩
  case round =>
    obtain ⟨k, hk, rfl, hg, hF⟩ := hrel
    by_cases hlt : k < len
    · obtain ⟨b, off, x, Acols, Lcols, Ccols, Akey, Lkey, Ckey, Auniques, Luniques, Cuniques, Achecks, Lchecks, Cchecks, Afks, Lfks, Cfks, rfl, hx, _, hb, zname, c0, c1, c2, c3, c4, c5, scols, skey, suniques, schecks, sfks, hrd⟩ := table_at (h.grow hg) hlt
      go_wp2_with fail
      refine (toTable_any _ x _ hrd (hsm.2 x (mem_of_at hx.out))).mono ?_
      rintro e w1 ⟨cs1, rfl, hrd1, hb⟩
      have hF1 := hF.grow hb
      have hlg := hF.lt
      have hgb := hg.trans hb
      have ff := hF1.free
      have hrd2 := Lib.hid (Kd.table.mono hrd1 (S' := fun b => Fresh w.heap.size w1 b ∧ b ≠ w.heap.size) (fun b hb => ⟨hb.low hg.size, by have := hb.1; omega⟩) (fun _ _ => rfl))
      obtain ⟨Acols1, Lcols1, Ccols1, Akey1, Lkey1, Ckey1, Auniques1, Luniques1, Cuniques1, Achecks1, Lchecks1, Cchecks1, Afks1, Lfks1, Cfks1, rfl, zname1, scols1, skey1, suniques1, schecks1, sfks1⟩ := hrd1
      obtain ⟨u0, d0⟩ := hF1.there (i := k) (j := 0) hlt (by decide)
      obtain ⟨u1, d1⟩ := hF1.there (i := k) (j := 1) hlt (by decide)
      obtain ⟨u2, d2⟩ := hF1.there (i := k) (j := 2) hlt (by decide)
      obtain ⟨u3, d3⟩ := hF1.there (i := k) (j := 3) hlt (by decide)
      obtain ⟨u4, d4⟩ := hF1.there (i := k) (j := 4) hlt (by decide)
      obtain ⟨u5, d5⟩ := hF1.there (i := k) (j := 5) hlt (by decide)
      simp only [Kd.table, Nat.add_zero] at d0 d1 d2 d3 d4 d5
      have key := Lib.hid (hF1.put hlt hx.out (cs := [.string x.name, .slice Acols1 Lcols1 Ccols1, .slice Akey1 Lkey1 Ckey1, .slice Auniques1 Luniques1 Cuniques1, .slice Achecks1 Lchecks1 Cchecks1, .slice Afks1 Lfks1 Cfks1]) hrd2.out)
      simp only [setL, show Kd.table.n = 6 from rfl, Nat.add_assoc, Nat.reduceAdd] at key
      go_wp2
      go_roundw
      case rel => exact ⟨k + 1, by omega, by go_num, (by repeat (with_reducible first | exact Grow.refl _ | assumption | refine Grow.drew ?_ | refine Grow.alloc ?_ _ | refine Grow.set ?_ (by first | exact Nat.le_refl _ | (simp; done) | (simp; omega) | omega) _ | exact And.left (by assumption) | refine Grow.trans ?_ (by assumption))), key.out⟩
      case measure => simp [intOf]; omega
    · go_wp2
      have hk' : k = len := by omega
      subst hk'
      go_ret
      exact ⟨_, k, k, rfl, hF.done HX.out HL.out, hg⟩
theorem eqTable_any (cs cs' : List Value) (x : Table) (w : World) (h : Kd.table.rd w (· < w.heap.size) cs x) (h' : Kd.table.rd w (· < w.heap.size) cs' x) :
    Calls Tryz.prog 56 #[.agg cs.toArray, .agg cs'.toArray] w (Ret w (.bool true)) := by
  obtain ⟨Acols, Lcols, Ccols, Akey, Lkey, Ckey, Auniques, Luniques, Cuniques, Achecks, Lchecks, Cchecks, Afks, Lfks, Cfks, rfl, zname, scols, skey, suniques, schecks, sfks⟩ := h
  obtain ⟨Acols', Lcols', Ccols', Akey', Lkey', Ckey', Auniques', Luniques', Cuniques', Achecks', Lchecks', Cchecks', Afks', Lfks', Cfks', rfl, zname', scols', skey', suniques', schecks', sfks'⟩ := h'
  go_enter Tryz.func56, Tryz.ntmps56
  go_wp2_with fail
  generalize hW : World.alloc (World.alloc w _) _ = W
  obtain ⟨hg, hs, hs', k1, k2⟩ := boxed2 hW
  clear hW
  have hcur := Grow.refl W
  have hc := hcur.same
  go_wp2_with (first | (go_at_call 116; (with_reducible refine (eqColS_any _ (scols.grow (hg.trans hcur)) (scols'.grow (hg.trans hcur))).mono ?_); rintro e w1 ⟨rfl, hb⟩; replace hcur := hcur.trans hb; replace hc := hcur.same; clear hb) | (go_at_call 117; (with_reducible refine (eqInt64S_any _ (skey.grow (hg.trans hcur)) (skey'.grow (hg.trans hcur))).mono ?_); rintro e w1 ⟨rfl, hb⟩; replace hcur := hcur.trans hb; replace hc := hcur.same; clear hb) | (go_at_call 118; (with_reducible refine (eqUniqueS_any _ (suniques.grow (hg.trans hcur)) (suniques'.grow (hg.trans hcur))).mono ?_); rintro e w1 ⟨rfl, hb⟩; replace hcur := hcur.trans hb; replace hc := hcur.same; clear hb) | (go_at_call 119; (with_reducible refine (eqCheckS_any _ (schecks.grow (hg.trans hcur)) (schecks'.grow (hg.trans hcur))).mono ?_); rintro e w1 ⟨rfl, hb⟩; replace hcur := hcur.trans hb; replace hc := hcur.same; clear hb) | (go_at_call 120; (with_reducible refine (eqFkS_any _ (sfks.grow (hg.trans hcur)) (sfks'.grow (hg.trans hcur))).mono ?_); rintro e w1 ⟨rfl, hb⟩; replace hcur := hcur.trans hb; replace hc := hcur.same; clear hb))
  go_ret
  exact ⟨rfl, (by repeat (with_reducible first | exact Grow.refl _ | assumption | refine Grow.drew ?_ | refine Grow.alloc ?_ _ | refine Grow.set ?_ (by first | exact Nat.le_refl _ | (simp; done) | (simp; omega) | omega) _ | exact And.left (by assumption) | refine Grow.trans ?_ (by assumption)))⟩
theorem eqTableS_any {A A' : Option Addr} {len len' cap cap' : Nat} {xs : List Table} (w : World) (h : IsSl Kd.table w (· < w.heap.size) A len cap xs) (h' : IsSl Kd.table w (· < w.heap.size) A' len' cap' xs) :
    Calls Tryz.prog 18 #[.slice A len cap, .slice A' len' cap'] w (Ret w (.bool true)) := by
  have hll : len' = len := h'.1.symm.trans h.1
  subst hll
  have hlen : len' ≤ maxLen := Nat.le_trans h.2.1 h.2.2.1
  unfold maxLen at hlen
  go_enter Tryz.func18, Tryz.ntmps18
  go_wp2
  go_loopw [5] (fun i wr => ∃ k : Nat, k ≤ len' ∧ i = .int .i64 k ∧ Grow w wr) (fun i _ => len' - (intOf i).toNat)
  case atStart => exact ⟨0, Nat.zero_le _, rfl, Grow.refl _⟩
  case round =>
    obtain ⟨k, hk, rfl, hg⟩ := hrel
    by_cases hlt : k < len'
    · obtain ⟨b, off, x, Acols, Lcols, Ccols, Akey, Lkey, Ckey, Auniques, Luniques, Cuniques, Achecks, Lchecks, Cchecks, Afks, Lfks, Cfks, rfl, hx, _, hb, zname, c0, c1, c2, c3, c4, c5, scols, skey, suniques, schecks, sfks, hrd⟩ := table_at (h.grow hg) hlt
      obtain ⟨b', off', x', Acols', Lcols', Ccols', Akey', Lkey', Ckey', Auniques', Luniques', Cuniques', Achecks', Lchecks', Cchecks', Afks', Lfks', Cfks', rfl, hx', _, hb', zname', d0, d1, d2, d3, d4, d5, scols', skey', suniques', schecks', sfks', hrd'⟩ := table_at (h'.grow hg) hlt
      obtain rfl : x = x' := Option.some.inj (hx.out.symm.trans hx'.out)
      have i0 : (0 : Int) ≤ (k : Int) := Int.natCast_nonneg k
      have i1 : (k : Int) < (len' : Int) := Int.ofNat_lt.mpr hlt
      go_wp2
      go_region_held3 (fun w' => Grow wr w' ∧ Same wr w') (exact Grow.both (by repeat (with_reducible first | exact Grow.refl _ | assumption | refine Grow.drew ?_ | refine Grow.alloc ?_ _ | refine Grow.set ?_ (by first | exact Nat.le_refl _ | (simp; done) | (simp; omega) | omega) _ | exact And.left (by assumption) | refine Grow.trans ?_ (by assumption)))) (first | (go_at_call 56; refine (eqTable_any _ _ x _ (Kd.table.grow hrd (And.left (by assumption))) (Kd.table.grow hrd' (And.left (by assumption)))).mono ?_; rintro e w2 ⟨rfl, hb⟩))
      obtain ⟨hcur, hc⟩ : Grow wr w2 ∧ Same wr w2 := by assumption
      go_wp2
      go_roundw
      case rel => exact ⟨k + 1, by omega, by go_num, hg.trans hcur⟩
      case measure => simp [intOf]; omega
    · go_wp2
      go_ret
      exact ⟨rfl, hg⟩
theorem szRow_any (left : Int) (cs : List Value) (x : Row) (w : World) (h : Kd.row.rd w (· < w.heap.size) cs x) (l0 : 0 ≤ left) (l1 : left ≤ 1048576) :
    Calls Tryz.prog 171 #[.agg cs.toArray, .int .i64 left] w (SzRes left (cRow x) (smRow x) w) := by
  obtain ⟨Avals, Lvals, Cvals, rfl, svals⟩ := h
  go_enter Tryz.func171, Tryz.ntmps171
  go_wp2_with fail
  generalize hW : World.alloc w _ = W
  obtain ⟨hg, hs', k1⟩ := boxed1 hW
  clear hW
  have hcur := Grow.refl W
  refine (szValS_any _ _ (svals.grow (hg.trans hcur)) (by omega) (by omega)).mono ?_
  rintro e w0 ⟨r0, rfl, hr0, hb0⟩
  replace hcur := hcur.trans hb0
  have hc := hcur.same
  have hgc := hg.trans hcur
  rcases hr0 with rfl | hr0
  · go_wp2
    go_ret
    exact ⟨-1, rfl, .inl rfl, (by repeat (with_reducible first | exact Grow.refl _ | assumption | refine Grow.drew ?_ | refine Grow.alloc ?_ _ | refine Grow.set ?_ (by first | exact Nat.le_refl _ | (simp; done) | (simp; omega) | omega) _ | exact And.left (by assumption) | refine Grow.trans ?_ (by assumption)))⟩
  go_wp2
  go_ret
  exact ⟨_, rfl, .inr ⟨by omega, by unfold cRow; omega, by unfold smRow; exact hr0.2.2⟩, (by repeat (with_reducible first | exact Grow.refl _ | assumption | refine Grow.drew ?_ | refine Grow.alloc ?_ _ | refine Grow.set ?_ (by first | exact Nat.le_refl _ | (simp; done) | (simp; omega) | omega) _ | exact And.left (by assumption) | refine Grow.trans ?_ (by assumption)))⟩
theorem szRowS_any {A : Option Addr} {len cap : Nat} {xs : List Row} (left : Int) (w : World) (h : IsSl Kd.row w (· < w.heap.size) A len cap xs) (l0 : 0 ≤ left) (l1 : left ≤ 1048576) :
    Calls Tryz.prog 105 #[.slice A len cap, .int .i64 left] w (SzRes left (cntL cRow xs) (SmL smRow xs) w) := by
  have hlen : len ≤ maxLen := Nat.le_trans h.2.1 h.2.2.1
  have HX := Lib.hid h.1
  unfold maxLen at hlen
  go_enter Tryz.func105, Tryz.ntmps105
  go_wp2
  · go_ret
    exact ⟨-1, rfl, .inl rfl, Grow.refl _⟩
  have hlen' : len ≤ 1048576 := by omega
  go_loopw [1, 4, 5] (fun l _ i wr => ∃ (k : Nat) (r : Int), k ≤ len ∧ i = .int .i64 k ∧ l = .int .i64 r ∧ 0 ≤ r ∧ r + (len : Int) + ((cSum cRow (xs.take k) : Nat) : Int) ≤ left ∧ SmTo smRow xs k ∧ Grow w wr) (fun _ _ i _ => len - (intOf i).toNat)
  case atStart => exact ⟨0, _, Nat.zero_le _, rfl, rfl, by omega, by simp only [List.take_zero, cSum, List.map_nil, List.sum_nil]; omega, SmTo.zero _ _, Grow.refl _⟩
  case round =>
    obtain ⟨k, r, hk, rfl, rfl, hr0, hr1, hsm, hg⟩ := hrel
    by_cases hlt : k < len
    · obtain ⟨b, off, x, Avals, Lvals, Cvals, rfl, hx, _, hb, c0, c1, svals, hrd⟩ := row_at (h.grow hg) hlt
      go_wp2_with fail
      refine (szRow_any r _ x _ hrd hr0 (by omega)).mono ?_
      rintro e w1 ⟨r1, rfl, hr, hb⟩
      have hsm1 : r1 = -1 ∨ smRow x := by rcases hr with h | h; exact .inl h; exact .inr h.2.2
      have hct := Lib.hid (cSum_take cRow hx.out)
      go_wp2
      · go_ret
        exact ⟨-1, rfl, .inl rfl, hg.trans hb⟩
      · go_roundw
        case rel => exact ⟨k + 1, r1, by omega, by go_num, rfl, by omega, by rw [hct.out]; omega, hsm.succ hx.out (hsm1.resolve_left (by omega)), hg.trans hb⟩
        case measure => simp [intOf]; omega
    · go_wp2
      go_ret
      exact ⟨r, rfl, .inr ⟨hr0, by rw [cSum_done _ (by rw [HX.out]; omega)] at hr1; rw [cntL, HX.out]; omega, hsm.done (by rw [HX.out]; omega) (by rw [HX.out]; exact hlen')⟩, hg⟩
set_option maxHeartbeats 1000000 in
theorem toRow_any (cs : List Value) (x : Row) (w : World) (h : Kd.row.rd w (· < w.heap.size) cs x) (hsm : smRow x) :
    Calls Tryz.prog 178 #[.agg cs.toArray] w (ToRes Kd.row x w) := by
  obtain ⟨Avals, Lvals, Cvals, rfl, svals⟩ := h
  go_enter Tryz.func178, Tryz.ntmps178
  go_wp2_with fail
  generalize hW : World.alloc _ _ = W
  have t := Three.of hW
  clear hW
  have hv0 := t.s2
  refine (toValS_any _ (svals.grow t.grow) hsm).mono ?_
  rintro e w0 ⟨Bvals, Mvals, Dvals, rfl, hvals, hb0⟩
  replace t := t.call hb0
  replace hvals := hvals.lower (B' := w.heap.size + 1 + 1 + 1) (by omega)
  obtain ⟨k0, f0⟩ := free_of t.b0
  obtain ⟨k1, f1⟩ := free_of t.b1
  obtain ⟨k2, f2⟩ := free_of t.b2
  have s0 := t.s0
  have s1 := t.s1
  have s2 := t.s2
  go_wp2
  clear k0 k1 k2 f0 f1 f2 s0 s1 s2
  replace t := t.put 1 (.slice Bvals Mvals Dvals)
  replace hvals := hvals.setLow (g := w.heap.size + 1 + 1) (o := 1) (x := .slice Bvals Mvals Dvals) (by omega)
  replace t := t.put1 0 (.int .i64 x.id)
  replace hvals := hvals.setLow (g := w.heap.size + 1) (o := 0) (x := .int .i64 x.id) (by omega)
  replace t := t.put1 1 (.slice Bvals Mvals Dvals)
  replace hvals := hvals.setLow (g := w.heap.size + 1) (o := 1) (x := .slice Bvals Mvals Dvals) (by omega)
  generalize hV : World.setCell _ _ _ = V at t hvals ⊢
  clear hV
  replace t : Three w V _ #[.int .i64 x.id, .slice Bvals Mvals Dvals] _ _ _ _ := t
  have k1 := (free_of t.b1).1
  have s1 := t.s1
  exact bodyPost_ret (v := .agg #[.int .i64 x.id, .slice Bvals Mvals Dvals]) (by simp [results, Tryz.results178, go_sem, k1, s1]) rfl ⟨[.int .i64 x.id, .slice Bvals Mvals Dvals], rfl, ⟨_, _, _, rfl, hvals.lower (by omega)⟩, t.grow⟩
theorem info_row : (Tryz.prog.info? 66).map (fun i => (i.zero, i.size, i.bytes)) = some (some (.agg #[.int .i64 0, .slice none 0 0]), 2, 32) := by kernel_rfl
theorem toRowS_any {A : Option Addr} {len cap : Nat} {xs : List Row} (w : World) (h : IsSl Kd.row w (· < w.heap.size) A len cap xs) (hsm : SmL smRow xs) :
    Calls Tryz.prog 113 #[.slice A len cap] w (SlRes Kd.row xs w) := by
  have hl : len ≤ 1048576 := by rw [← h.1]; exact hsm.1
  have hlen : len ≤ maxLen := Nat.le_trans h.2.1 h.2.2.1
  have hby : 32 * len ≤ 281474976710656 := by omega
  have HB := Lib.hid hby
  have HL := Lib.hid hlen
  have HX := Lib.hid h.1
  clear hby hl
  obtain ⟨i0, hi, hz0, hz1, hz2⟩ := info_parts info_row
  unfold maxLen at hlen
  go_enter Tryz.func113, Tryz.ntmps113
  go_wp2_with (at_make; refine wpList_make_full _ rfl _ _ 60 rfl w.heap.size 66 i0 _ 2 Tryz.underlying60 hi hz0 hz1 .i64 .i64 _ _ len rfl rfl rfl rfl (by rw [hz2]; exact HB.out) HL.out (Nat.le_refl _) ?_; intro w0 hown hgrow)
  have hG : Grow w w0 := Below.grown (Below.refl _ _) hgrow (Nat.le_refl _) (fun k hk => by cases hk)
  have hF : Fill Kd.row 66 w.heap.size w0 w.heap.size len 0 xs := Fill.start rfl hown
  have hwg : w.heap.size ≤ w.heap.size := Nat.le_refl _
  clear hown hgrow hi hz0 hz1 hz2
  go_loopw [4] (fun i wr => ∃ k : Nat, k ≤ len ∧ i = .int .i64 k ∧ Grow w wr ∧ Fill Kd.row 66 w.heap.size wr w.heap.size len k xs) (fun i _ => len - (intOf i).toNat)
  case atStart => exact ⟨0, Nat.zero_le _, rfl, hG, hF⟩
  case round =>
    obtain ⟨k, hk, rfl, hg, hF⟩ := hrel
    by_cases hlt : k < len
    · obtain ⟨b, off, x, Avals, Lvals, Cvals, rfl, hx, _, hb, c0, c1, svals, hrd⟩ := row_at (h.grow hg) hlt
      go_wp2_with fail
      refine (toRow_any _ x _ hrd (hsm.2 x (mem_of_at hx.out))).mono ?_
      rintro e w1 ⟨cs1, rfl, hrd1, hb⟩
      have hF1 := hF.grow hb
      have hlg := hF.lt
      have hgb := hg.trans hb
      have ff := hF1.free
      have hrd2 := Lib.hid (Kd.row.mono hrd1 (S' := fun b => Fresh w.heap.size w1 b ∧ b ≠ w.heap.size) (fun b hb => ⟨hb.low hg.size, by have := hb.1; omega⟩) (fun _ _ => rfl))
      obtain ⟨Avals1, Lvals1, Cvals1, rfl, svals1⟩ := hrd1
      obtain ⟨u0, d0⟩ := hF1.there (i := k) (j := 0) hlt (by decide)
      obtain ⟨u1, d1⟩ := hF1.there (i := k) (j := 1) hlt (by decide)
      simp only [Kd.row, Nat.add_zero] at d0 d1
      have key := Lib.hid (hF1.put hlt hx.out (cs := [.int .i64 x.id, .slice Avals1 Lvals1 Cvals1]) hrd2.out)
      simp only [setL, show Kd.row.n = 2 from rfl, Nat.add_assoc] at key
      go_wp2
      go_roundw
      case rel => exact ⟨k + 1, by omega, by go_num, (by repeat (with_reducible first | exact Grow.refl _ | assumption | refine Grow.drew ?_ | refine Grow.alloc ?_ _ | refine Grow.set ?_ (by first | exact Nat.le_refl _ | (simp; done) | (simp; omega) | omega) _ | exact And.left (by assumption) | refine Grow.trans ?_ (by assumption))), key.out⟩
      case measure => simp [intOf]; omega
    · go_wp2
      have hk' : k = len := by omega
      subst hk'
      go_ret
      exact ⟨_, k, k, rfl, hF.done HX.out HL.out, hg⟩
theorem eqRow_any (cs cs' : List Value) (x : Row) (w : World) (h : Kd.row.rd w (· < w.heap.size) cs x) (h' : Kd.row.rd w (· < w.heap.size) cs' x) :
    Calls Tryz.prog 187 #[.agg cs.toArray, .agg cs'.toArray] w (Ret w (.bool true)) := by
  obtain ⟨Avals, Lvals, Cvals, rfl, svals⟩ := h
  obtain ⟨Avals', Lvals', Cvals', rfl, svals'⟩ := h'
  go_enter Tryz.func187, Tryz.ntmps187
  go_wp2_with fail
  generalize hW : World.alloc (World.alloc w _) _ = W
  obtain ⟨hg, hs, hs', k1, k2⟩ := boxed2 hW
  clear hW
  have hcur := Grow.refl W
  have hc := hcur.same
  go_wp2_with (first | (go_at_call 221; (with_reducible refine (eqValS_any _ (svals.grow (hg.trans hcur)) (svals'.grow (hg.trans hcur))).mono ?_); rintro e w1 ⟨rfl, hb⟩; replace hcur := hcur.trans hb; replace hc := hcur.same; clear hb))
  go_ret
  exact ⟨rfl, (by repeat (with_reducible first | exact Grow.refl _ | assumption | refine Grow.drew ?_ | refine Grow.alloc ?_ _ | refine Grow.set ?_ (by first | exact Nat.le_refl _ | (simp; done) | (simp; omega) | omega) _ | exact And.left (by assumption) | refine Grow.trans ?_ (by assumption)))⟩
theorem eqRowS_any {A A' : Option Addr} {len len' cap cap' : Nat} {xs : List Row} (w : World) (h : IsSl Kd.row w (· < w.heap.size) A len cap xs) (h' : IsSl Kd.row w (· < w.heap.size) A' len' cap' xs) :
    Calls Tryz.prog 121 #[.slice A len cap, .slice A' len' cap'] w (Ret w (.bool true)) := by
  have hll : len' = len := h'.1.symm.trans h.1
  subst hll
  have hlen : len' ≤ maxLen := Nat.le_trans h.2.1 h.2.2.1
  unfold maxLen at hlen
  go_enter Tryz.func121, Tryz.ntmps121
  go_wp2
  go_loopw [5] (fun i wr => ∃ k : Nat, k ≤ len' ∧ i = .int .i64 k ∧ Grow w wr) (fun i _ => len' - (intOf i).toNat)
  case atStart => exact ⟨0, Nat.zero_le _, rfl, Grow.refl _⟩
  case round =>
    obtain ⟨k, hk, rfl, hg⟩ := hrel
    by_cases hlt : k < len'
    · obtain ⟨b, off, x, Avals, Lvals, Cvals, rfl, hx, _, hb, c0, c1, svals, hrd⟩ := row_at (h.grow hg) hlt
      obtain ⟨b', off', x', Avals', Lvals', Cvals', rfl, hx', _, hb', d0, d1, svals', hrd'⟩ := row_at (h'.grow hg) hlt
      obtain rfl : x = x' := Option.some.inj (hx.out.symm.trans hx'.out)
      have i0 : (0 : Int) ≤ (k : Int) := Int.natCast_nonneg k
      have i1 : (k : Int) < (len' : Int) := Int.ofNat_lt.mpr hlt
      go_wp2
      go_region_held3 (fun w' => Grow wr w' ∧ Same wr w') (exact Grow.both (by repeat (with_reducible first | exact Grow.refl _ | assumption | refine Grow.drew ?_ | refine Grow.alloc ?_ _ | refine Grow.set ?_ (by first | exact Nat.le_refl _ | (simp; done) | (simp; omega) | omega) _ | exact And.left (by assumption) | refine Grow.trans ?_ (by assumption)))) (first | (go_at_call 187; refine (eqRow_any _ _ x _ (Kd.row.grow hrd (And.left (by assumption))) (Kd.row.grow hrd' (And.left (by assumption)))).mono ?_; rintro e w2 ⟨rfl, hb⟩))
      obtain ⟨hcur, hc⟩ : Grow wr w2 ∧ Same wr w2 := by assumption
      go_wp2
      go_roundw
      case rel => exact ⟨k + 1, by omega, by go_num, hg.trans hcur⟩
      case measure => simp [intOf]; omega
    · go_wp2
      go_ret
      exact ⟨rfl, hg⟩
theorem szData_any (left : Int) (cs : List Value) (x : Data) (w : World) (h : Kd.data.rd w (· < w.heap.size) cs x) (l0 : 0 ≤ left) (l1 : left ≤ 1048576) :
    Calls Tryz.prog 51 #[.agg cs.toArray, .int .i64 left] w (SzRes left (cData x) (smData x) w) := by
  obtain ⟨Arows, Lrows, Crows, rfl, srows⟩ := h
  go_enter Tryz.func51, Tryz.ntmps51
  go_wp2_with fail
  generalize hW : World.alloc w _ = W
  obtain ⟨hg, hs', k1⟩ := boxed1 hW
  clear hW
  have hcur := Grow.refl W
  refine (szRowS_any _ _ (srows.grow (hg.trans hcur)) (by omega) (by omega)).mono ?_
  rintro e w0 ⟨r0, rfl, hr0, hb0⟩
  replace hcur := hcur.trans hb0
  have hc := hcur.same
  have hgc := hg.trans hcur
  rcases hr0 with rfl | hr0
  · go_wp2
    go_ret
    exact ⟨-1, rfl, .inl rfl, (by repeat (with_reducible first | exact Grow.refl _ | assumption | refine Grow.drew ?_ | refine Grow.alloc ?_ _ | refine Grow.set ?_ (by first | exact Nat.le_refl _ | (simp; done) | (simp; omega) | omega) _ | exact And.left (by assumption) | refine Grow.trans ?_ (by assumption)))⟩
  go_wp2
  go_ret
  exact ⟨_, rfl, .inr ⟨by omega, by unfold cData; omega, by unfold smData; exact hr0.2.2⟩, (by repeat (with_reducible first | exact Grow.refl _ | assumption | refine Grow.drew ?_ | refine Grow.alloc ?_ _ | refine Grow.set ?_ (by first | exact Nat.le_refl _ | (simp; done) | (simp; omega) | omega) _ | exact And.left (by assumption) | refine Grow.trans ?_ (by assumption)))⟩
theorem szDataS_any {A : Option Addr} {len cap : Nat} {xs : List Data} (left : Int) (w : World) (h : IsSl Kd.data w (· < w.heap.size) A len cap xs) (l0 : 0 ≤ left) (l1 : left ≤ 1048576) :
    Calls Tryz.prog 13 #[.slice A len cap, .int .i64 left] w (SzRes left (cntL cData xs) (SmL smData xs) w) := by
  have hlen : len ≤ maxLen := Nat.le_trans h.2.1 h.2.2.1
  have HX := Lib.hid h.1
  unfold maxLen at hlen
  go_enter Tryz.func13, Tryz.ntmps13
  go_wp2
  · go_ret
    exact ⟨-1, rfl, .inl rfl, Grow.refl _⟩
  have hlen' : len ≤ 1048576 := by omega
  go_loopw [1, 4, 5] (fun l _ i wr => ∃ (k : Nat) (r : Int), k ≤ len ∧ i = .int .i64 k ∧ l = .int .i64 r ∧ 0 ≤ r ∧ r + (len : Int) + ((cSum cData (xs.take k) : Nat) : Int) ≤ left ∧ SmTo smData xs k ∧ Grow w wr) (fun _ _ i _ => len - (intOf i).toNat)
  case atStart => exact ⟨0, _, Nat.zero_le _, rfl, rfl, by omega, by simp only [List.take_zero, cSum, List.map_nil, List.sum_nil]; omega, SmTo.zero _ _, Grow.refl _⟩
  case round =>
    obtain ⟨k, r, hk, rfl, rfl, hr0, hr1, hsm, hg⟩ := hrel
    by_cases hlt : k < len
    · obtain ⟨b, off, x, Arows, Lrows, Crows, rfl, hx, _, hb, c0, srows, hrd⟩ := data_at (h.grow hg) hlt
      go_wp2_with fail
      refine (szData_any r _ x _ hrd hr0 (by omega)).mono ?_
      rintro e w1 ⟨r1, rfl, hr, hb⟩
      have hsm1 : r1 = -1 ∨ smData x := by rcases hr with h | h; exact .inl h; exact .inr h.2.2
      have hct := Lib.hid (cSum_take cData hx.out)
      go_wp2
      · go_ret
        exact ⟨-1, rfl, .inl rfl, hg.trans hb⟩
      · go_roundw
        case rel => exact ⟨k + 1, r1, by omega, by go_num, rfl, by omega, by rw [hct.out]; omega, hsm.succ hx.out (hsm1.resolve_left (by omega)), hg.trans hb⟩
        case measure => simp [intOf]; omega
    · go_wp2
      go_ret
      exact ⟨r, rfl, .inr ⟨hr0, by rw [cSum_done _ (by rw [HX.out]; omega)] at hr1; rw [cntL, HX.out]; omega, hsm.done (by rw [HX.out]; omega) (by rw [HX.out]; exact hlen')⟩, hg⟩
set_option maxHeartbeats 1000000 in
theorem toData_any (cs : List Value) (x : Data) (w : World) (h : Kd.data.rd w (· < w.heap.size) cs x) (hsm : smData x) :
    Calls Tryz.prog 54 #[.agg cs.toArray] w (ToRes Kd.data x w) := by
  obtain ⟨Arows, Lrows, Crows, rfl, srows⟩ := h
  go_enter Tryz.func54, Tryz.ntmps54
  go_wp2_with fail
  generalize hW : World.alloc _ _ = W
  have t := Three.of hW
  clear hW
  have hv0 := t.s2
  refine (toRowS_any _ (srows.grow t.grow) hsm).mono ?_
  rintro e w0 ⟨Brows, Mrows, Drows, rfl, hrows, hb0⟩
  replace t := t.call hb0
  replace hrows := hrows.lower (B' := w.heap.size + 1 + 1 + 1) (by omega)
  obtain ⟨k0, f0⟩ := free_of t.b0
  obtain ⟨k1, f1⟩ := free_of t.b1
  obtain ⟨k2, f2⟩ := free_of t.b2
  have s0 := t.s0
  have s1 := t.s1
  have s2 := t.s2
  go_wp2
  clear k0 k1 k2 f0 f1 f2 s0 s1 s2
  replace t := t.put 0 (.slice Brows Mrows Drows)
  replace hrows := hrows.setLow (g := w.heap.size + 1 + 1) (o := 0) (x := .slice Brows Mrows Drows) (by omega)
  replace t := t.put1 0 (.slice Brows Mrows Drows)
  replace hrows := hrows.setLow (g := w.heap.size + 1) (o := 0) (x := .slice Brows Mrows Drows) (by omega)
  generalize hV : World.setCell _ _ _ = V at t hrows ⊢
  clear hV
  replace t : Three w V _ #[.slice Brows Mrows Drows] _ _ _ _ := t
  have k1 := (free_of t.b1).1
  have s1 := t.s1
  exact bodyPost_ret (v := .agg #[.slice Brows Mrows Drows]) (by simp [results, Tryz.results54, go_sem, k1, s1]) rfl ⟨[.slice Brows Mrows Drows], rfl, ⟨_, _, _, rfl, hrows.lower (by omega)⟩, t.grow⟩
theorem info_data : (Tryz.prog.info? 62).map (fun i => (i.zero, i.size, i.bytes)) = some (some (.agg #[.slice none 0 0]), 1, 24) := by kernel_rfl
theorem toDataS_any {A : Option Addr} {len cap : Nat} {xs : List Data} (w : World) (h : IsSl Kd.data w (· < w.heap.size) A len cap xs) (hsm : SmL smData xs) :
    Calls Tryz.prog 16 #[.slice A len cap] w (SlRes Kd.data xs w) := by
  have hl : len ≤ 1048576 := by rw [← h.1]; exact hsm.1
  have hlen : len ≤ maxLen := Nat.le_trans h.2.1 h.2.2.1
  have hby : 24 * len ≤ 281474976710656 := by omega
  have HB := Lib.hid hby
  have HL := Lib.hid hlen
  have HX := Lib.hid h.1
  clear hby hl
  obtain ⟨i0, hi, hz0, hz1, hz2⟩ := info_parts info_data
  unfold maxLen at hlen
  go_enter Tryz.func16, Tryz.ntmps16
  go_wp2_with (at_make; refine wpList_make_full _ rfl _ _ 29 rfl w.heap.size 62 i0 _ 1 Tryz.underlying29 hi hz0 hz1 .i64 .i64 _ _ len rfl rfl rfl rfl (by rw [hz2]; exact HB.out) HL.out (Nat.le_refl _) ?_; intro w0 hown hgrow)
  have hG : Grow w w0 := Below.grown (Below.refl _ _) hgrow (Nat.le_refl _) (fun k hk => by cases hk)
  have hF : Fill Kd.data 62 w.heap.size w0 w.heap.size len 0 xs := Fill.start rfl hown
  have hwg : w.heap.size ≤ w.heap.size := Nat.le_refl _
  clear hown hgrow hi hz0 hz1 hz2
  go_loopw [4] (fun i wr => ∃ k : Nat, k ≤ len ∧ i = .int .i64 k ∧ Grow w wr ∧ Fill Kd.data 62 w.heap.size wr w.heap.size len k xs) (fun i _ => len - (intOf i).toNat)
  case atStart => exact ⟨0, Nat.zero_le _, rfl, hG, hF⟩
  case round =>
    obtain ⟨k, hk, rfl, hg, hF⟩ := hrel
    by_cases hlt : k < len
    · obtain ⟨b, off, x, Arows, Lrows, Crows, rfl, hx, _, hb, c0, srows, hrd⟩ := data_at (h.grow hg) hlt
      go_wp2_with fail
      refine (toData_any _ x _ hrd (hsm.2 x (mem_of_at hx.out))).mono ?_
      rintro e w1 ⟨cs1, rfl, hrd1, hb⟩
      have hF1 := hF.grow hb
      have hlg := hF.lt
      have hgb := hg.trans hb
      have ff := hF1.free
      have hrd2 := Lib.hid (Kd.data.mono hrd1 (S' := fun b => Fresh w.heap.size w1 b ∧ b ≠ w.heap.size) (fun b hb => ⟨hb.low hg.size, by have := hb.1; omega⟩) (fun _ _ => rfl))
      obtain ⟨Arows1, Lrows1, Crows1, rfl, srows1⟩ := hrd1
      obtain ⟨u0, d0⟩ := hF1.there (i := k) (j := 0) hlt (by decide)
      simp only [Kd.data, Nat.add_zero, Nat.mul_one] at d0
      have key := Lib.hid (hF1.put hlt hx.out (cs := [.slice Arows1 Lrows1 Crows1]) hrd2.out)
      simp only [setL, show Kd.data.n = 1 from rfl, Nat.add_assoc, Nat.mul_one] at key
      go_wp2
      go_roundw
      case rel => exact ⟨k + 1, by omega, by go_num, (by repeat (with_reducible first | exact Grow.refl _ | assumption | refine Grow.drew ?_ | refine Grow.alloc ?_ _ | refine Grow.set ?_ (by first | exact Nat.le_refl _ | (simp; done) | (simp; omega) | omega) _ | exact And.left (by assumption) | refine Grow.trans ?_ (by assumption))), key.out⟩
      case measure => simp [intOf]; omega
    · go_wp2
      have hk' : k = len := by omega
      subst hk'
      go_ret
      exact ⟨_, k, k, rfl, hF.done HX.out HL.out, hg⟩
theorem eqData_any (cs cs' : List Value) (x : Data) (w : World) (h : Kd.data.rd w (· < w.heap.size) cs x) (h' : Kd.data.rd w (· < w.heap.size) cs' x) :
    Calls Tryz.prog 57 #[.agg cs.toArray, .agg cs'.toArray] w (Ret w (.bool true)) := by
  obtain ⟨Arows, Lrows, Crows, rfl, srows⟩ := h
  obtain ⟨Arows', Lrows', Crows', rfl, srows'⟩ := h'
  go_enter Tryz.func57, Tryz.ntmps57
  go_wp2_with fail
  generalize hW : World.alloc (World.alloc w _) _ = W
  obtain ⟨hg, hs, hs', k1, k2⟩ := boxed2 hW
  clear hW
  have hcur := Grow.refl W
  have hc := hcur.same
  go_wp2_with (first | (go_at_call 121; (with_reducible refine (eqRowS_any _ (srows.grow (hg.trans hcur)) (srows'.grow (hg.trans hcur))).mono ?_); rintro e w1 ⟨rfl, hb⟩; replace hcur := hcur.trans hb; replace hc := hcur.same; clear hb))
  go_ret
  exact ⟨rfl, (by repeat (with_reducible first | exact Grow.refl _ | assumption | refine Grow.drew ?_ | refine Grow.alloc ?_ _ | refine Grow.set ?_ (by first | exact Nat.le_refl _ | (simp; done) | (simp; omega) | omega) _ | exact And.left (by assumption) | refine Grow.trans ?_ (by assumption)))⟩
theorem eqDataS_any {A A' : Option Addr} {len len' cap cap' : Nat} {xs : List Data} (w : World) (h : IsSl Kd.data w (· < w.heap.size) A len cap xs) (h' : IsSl Kd.data w (· < w.heap.size) A' len' cap' xs) :
    Calls Tryz.prog 19 #[.slice A len cap, .slice A' len' cap'] w (Ret w (.bool true)) := by
  have hll : len' = len := h'.1.symm.trans h.1
  subst hll
  have hlen : len' ≤ maxLen := Nat.le_trans h.2.1 h.2.2.1
  unfold maxLen at hlen
  go_enter Tryz.func19, Tryz.ntmps19
  go_wp2
  go_loopw [5] (fun i wr => ∃ k : Nat, k ≤ len' ∧ i = .int .i64 k ∧ Grow w wr) (fun i _ => len' - (intOf i).toNat)
  case atStart => exact ⟨0, Nat.zero_le _, rfl, Grow.refl _⟩
  case round =>
    obtain ⟨k, hk, rfl, hg⟩ := hrel
    by_cases hlt : k < len'
    · obtain ⟨b, off, x, Arows, Lrows, Crows, rfl, hx, _, hb, c0, srows, hrd⟩ := data_at (h.grow hg) hlt
      obtain ⟨b', off', x', Arows', Lrows', Crows', rfl, hx', _, hb', d0, srows', hrd'⟩ := data_at (h'.grow hg) hlt
      obtain rfl : x = x' := Option.some.inj (hx.out.symm.trans hx'.out)
      have i0 : (0 : Int) ≤ (k : Int) := Int.natCast_nonneg k
      have i1 : (k : Int) < (len' : Int) := Int.ofNat_lt.mpr hlt
      go_wp2
      go_region_held3 (fun w' => Grow wr w' ∧ Same wr w') (exact Grow.both (by repeat (with_reducible first | exact Grow.refl _ | assumption | refine Grow.drew ?_ | refine Grow.alloc ?_ _ | refine Grow.set ?_ (by first | exact Nat.le_refl _ | (simp; done) | (simp; omega) | omega) _ | exact And.left (by assumption) | refine Grow.trans ?_ (by assumption)))) (first | (go_at_call 57; refine (eqData_any _ _ x _ (Kd.data.grow hrd (And.left (by assumption))) (Kd.data.grow hrd' (And.left (by assumption)))).mono ?_; rintro e w2 ⟨rfl, hb⟩))
      obtain ⟨hcur, hc⟩ : Grow wr w2 ∧ Same wr w2 := by assumption
      go_wp2
      go_roundw
      case rel => exact ⟨k + 1, by omega, by go_num, hg.trans hcur⟩
      case measure => simp [intOf]; omega
    · go_wp2
      go_ret
      exact ⟨rfl, hg⟩
end Go.Proofs.YtonijaniaimgaaaGreat
