import Derived.Test.YtjeilgogjoidjaaGreatStack
import Derived.Test.YtjeilgogjoidjaaGreatHeld
import Derived.Test.YtjeilgogjoidjaaGreatMarks
import Derived.Deep.AppendLies
import Derived.Deep.Upon
/-! Slices of a call's own, by what they read as: append. -/
namespace Go.Proofs.YtjeilgogjoidjaaGreat
open Go.RowKit
set_option linter.unusedVariables false
set_option linter.unusedSimpArgs false
theorem plain_str : Plain Kd.str := fun _ _ _ _ _ _ h => h
theorem plain_tok : Plain Kd.tok := fun _ _ _ _ _ _ h => h
theorem plain_flaw : Plain Kd.flaw := fun _ _ _ _ _ _ h => h
/-- Each cell is one cell. -/
def Ones {α : Type} (k : Kd α) : Prop := ∀ (w : World) (S : Nat → Prop) (cs : List Value) (a : α), k.rd w S cs a → ∀ u ∈ cs, u.oneCell' = true
theorem ones_int : Ones Kd.int := fun w S cs a h u hu => by
  obtain rfl : cs = [.int .i64 a] := h
  simp at hu; subst hu; rfl
theorem ones_str : Ones Kd.str := fun w S cs a h u hu => by
  obtain ⟨rfl, _⟩ := h
  simp at hu; subst hu; rfl
theorem ones_val : Ones Kd.val := fun w S cs a h u hu => by
  obtain ⟨rfl, _⟩ := h
  simp at hu; rcases hu with rfl | rfl | rfl <;> rfl
theorem ones_tok : Ones Kd.tok := fun w S cs a h u hu => by
  obtain ⟨rfl, _⟩ := h
  simp at hu; rcases hu with rfl | rfl | rfl | rfl | rfl <;> rfl
theorem ones_flaw : Ones Kd.flaw := fun w S cs a h u hu => by
  obtain ⟨rfl, _⟩ := h
  simp at hu; rcases hu with rfl | rfl | rfl <;> rfl
/-- A slice type and its element type. -/
def ElemOk (P : Program) (t E : TypeId) (size bytes : Nat) : Prop :=
  ∃ (i : TypeInfo) (z : Value), P.underlying t = some (.slice E) ∧ P.info? E = some i ∧ i.zero = some z ∧ i.size = size ∧ i.bytes = bytes ∧ z.cells.size = size ∧ 0 < size
theorem elemOk_of {P : Program} {t E : TypeId} {z : Value} {size bytes : Nat} (ht : P.underlying t = some (.slice E)) (hi : (P.info? E).map (fun i => (i.zero, i.size, i.bytes)) = some (some z, size, bytes)) (hz : z.cells.size = size) (h0 : 0 < size) : ElemOk P t E size bytes := by
  obtain ⟨i, h1, h2, h3, h4⟩ := info_parts hi
  exact ⟨i, z, ht, h1, h2, h3, h4, hz, h0⟩
/-- (where a slice's cells lie) -/
def blockOf : Option Addr → Option Nat
  | some a => some a.block
  | none => none
/-- A slice of the call's own (made since W) that reads as xs. -/
def OwnF {α : Type} (k : Kd α) (E : TypeId) (W w : World) (A : Option Addr) (n c : Nat) (xs : List α) : Prop :=
  ∃ rows, w.ownsRow W.heap.size E k.n (.slice A n c) n rows ∧ Flat k w (fun _ => False) rows xs ∧ xs.length = n ∧ Grow W w
theorem OwnF.isSl {α : Type} {k : Kd α} {E : TypeId} {W w : World} {A : Option Addr} {n c : Nat} {xs : List α} (h : OwnF k E W w A n c xs) : IsSl k w (Fresh W.heap.size w) A n c xs := by
  obtain ⟨rows, h1, h2, h3, h4⟩ := h
  exact own_isSl h1 h2 h3 (fun _ h => h.elim) (fun b hB hlt hfr => ⟨hB, hlt, hfr⟩)
theorem OwnF.grows {α : Type} {k : Kd α} {E : TypeId} {W w : World} {A : Option Addr} {n c : Nat} {xs : List α} (h : OwnF k E W w A n c xs) : Grow W w := h.choose_spec.2.2.2
theorem OwnF.len {α : Type} {k : Kd α} {E : TypeId} {W w : World} {A : Option Addr} {n c : Nat} {xs : List α} (h : OwnF k E W w A n c xs) : xs.length = n := h.choose_spec.2.2.1
theorem OwnF.le {α : Type} {k : Kd α} {E : TypeId} {W w : World} {A : Option Addr} {n c : Nat} {xs : List α} (h : OwnF k E W w A n c xs) : n ≤ c ∧ c ≤ maxLen := ⟨h.isSl.2.1, h.isSl.2.2.1⟩
theorem OwnF.base {α : Type} {k : Kd α} {E : TypeId} {W w : World} {p o n c : Nat} {xs : List α} (h : OwnF k E W w (some ⟨p, o, none⟩) n c xs) : W.heap.size ≤ p ∧ o = 0 ∧ p < w.heap.size := by
  obtain ⟨rows, ⟨hr, ⟨h0, _⟩ | ⟨g, cap', cur, hv, hB, hh, hle, hmx, hs, ht⟩⟩, h2, h3, h4⟩ := h
  · cases h0
  · simp only [Value.slice.injEq, Option.some.injEq, Addr.mk.injEq] at hv
    obtain ⟨⟨rfl, rfl, _⟩, _⟩ := hv
    refine ⟨hB, rfl, ?_⟩
    rcases Nat.lt_or_ge p w.heap.size with h' | h'
    · exact h'
    · simp [Array.getElem?_eq_none h'] at hh
theorem OwnF.there {α : Type} {k : Kd α} {E : TypeId} {W w : World} {A : Option Addr} {n c : Nat} {xs : List α} (h : OwnF k E W w A n c xs) (hn : 0 < n) : ∃ p, A = some ⟨p, 0, none⟩ := by
  obtain ⟨rows, ⟨hr, ⟨h0, h00⟩ | ⟨g, cap', cur, hv, hB, hh, hle, hmx, hs, ht⟩⟩, h2, h3, h4⟩ := h
  · omega
  · simp only [Value.slice.injEq] at hv
    exact ⟨g, hv.1⟩
theorem OwnF.grow {α : Type} {k : Kd α} {E : TypeId} {W w w' : World} {A : Option Addr} {n c : Nat} {xs : List α} (h : OwnF k E W w A n c xs) (hg : Grow w w') : OwnF k E W w' A n c xs := by
  obtain ⟨rows, ⟨hr, h1⟩, h2, h3, h4⟩ := h
  refine ⟨rows, ⟨hr, ?_⟩, Flat.mono (fun _ h => h) (fun _ h => h.elim) h2, h3, h4.trans hg⟩
  rcases h1 with h0 | ⟨g, cap', cur, hv, hB, hh, hle, hmx, hs, ht⟩
  · exact .inl h0
  · refine .inr ⟨g, cap', cur, hv, hB, ?_, hle, hmx, hs, ht⟩
    rw [hg.block]
    · exact hh
    · rcases Nat.lt_or_ge g w.heap.size with h' | h'
      · exact h'
      · simp [Array.getElem?_eq_none h'] at hh
theorem OwnF.baseB {α : Type} {k : Kd α} {E : TypeId} {W w : World} {A : Option Addr} {n c : Nat} {xs : List α} (h : OwnF k E W w A n c xs) : ∀ q, blockOf A = Option.some q → W.heap.size ≤ q := fun q hq => by
  obtain ⟨rows, ⟨hr, ⟨h0, _⟩ | ⟨g, cap', cur, hv, hB, hh, hle, hmx, hs, ht⟩⟩, h2, h3, h4⟩ := h
  · simp only [Value.slice.injEq] at h0
    rw [h0.1] at hq; cases hq
  · simp only [Value.slice.injEq] at hv
    rw [hv.1] at hq
    cases hq
    exact hB
theorem OwnF.low {α : Type} {k : Kd α} {E : TypeId} {X W w : World} {A : Option Addr} {n c : Nat} {xs : List α} (h : OwnF k E W w A n c xs) (hX : Grow X W) : OwnF k E X w A n c xs := by
  obtain ⟨rows, ⟨hr, h1⟩, h2, h3, h4⟩ := h
  refine ⟨rows, ⟨hr, ?_⟩, h2, h3, hX.trans h4⟩
  rcases h1 with h0 | ⟨g, cap', cur, hv, hB, hh, hle, hmx, hs, ht⟩
  · exact .inl h0
  · exact .inr ⟨g, cap', cur, hv, Nat.le_trans hX.size hB, hh, hle, hmx, hs, ht⟩
theorem OwnF.nil {α : Type} {k : Kd α} {E : TypeId} {W w : World} (hg : Grow W w) : OwnF k E W w none 0 0 [] := ⟨[], ⟨by simp, .inl ⟨rfl, rfl⟩⟩, rfl, rfl, hg⟩
/-- An empty one, made at once. -/
theorem OwnF.made {α : Type} {k : Kd α} {E : TypeId} {W w : World} (hg : Grow W w) : OwnF k E W (w.alloc (.cells #[] E)) (some ⟨w.heap.size, 0, none⟩) 0 0 [] :=
  ⟨[], ⟨by simp, .inr ⟨_, 0, #[], rfl, hg.size, new_block _ _, Nat.le_refl _, by simp [maxLen], by simp, by simp⟩⟩, rfl, rfl, hg.alloc _⟩
theorem OwnF.take {α : Type} {k : Kd α} {E : TypeId} {W w : World} {A : Option Addr} {n c m : Nat} {xs : List α} (h : OwnF k E W w A n c xs) (hm : m ≤ n) : OwnF k E W w A m c (xs.take m) := by
  obtain ⟨rows, h1, h2, h3, h4⟩ := h
  exact ⟨_, own_take h1 hm, Flat.take m h2, by rw [List.length_take, h3]; omega, h4⟩
theorem flat_cells {α : Type} {k : Kd α} {w : World} {S : Nat → Prop} {b : Nat} : ∀ (ys : List α) (off : Nat), (∀ i (h : i < ys.length), ∃ cs, (∀ j, j < k.n → w.cell? ⟨b, off + (i * k.n + j), none⟩ = cs[j]?) ∧ k.rd w S cs ys[i]) →
    ∃ news : List Value, Flat k w S news ys ∧ ∀ j u, news[j]? = some u → w.cell? ⟨b, off + j, none⟩ = some u := by
  intro ys
  induction ys with
  | nil => intro off _; exact ⟨[], rfl, fun j u h => by simp at h⟩
  | cons y ys ih =>
    intro off h
    obtain ⟨cs, hc, hr⟩ := h 0 (by simp)
    obtain ⟨news, hf, hn⟩ := ih (off + k.n) (fun i hi => by
      obtain ⟨cs', hc', hr'⟩ := h (i + 1) (by simp; omega)
      refine ⟨cs', fun j hj => ?_, hr'⟩
      rw [← hc' j hj, Nat.add_mul]
      congr 2
      omega)
    have hl := k.len hr
    refine ⟨cs ++ news, ⟨cs, news, rfl, hr, hf⟩, fun j u hj => ?_⟩
    by_cases hjn : j < k.n
    · rw [List.getElem?_append_left (by omega)] at hj
      have := hc j hjn
      rw [Nat.zero_mul, Nat.zero_add] at this
      rw [this, hj]
    · rw [List.getElem?_append_right (by omega), hl] at hj
      have := hn (j - k.n) u hj
      rw [← this]
      congr 2
      omega
theorem flat_ones {α : Type} {k : Kd α} (ho : Ones k) {w : World} {S : Nat → Prop} : ∀ {rows : List Value} {xs : List α}, Flat k w S rows xs → ∀ u ∈ rows, u.oneCell' = true
  | _, [], h, u, hu => by rw [show _ = [] from h] at hu; cases hu
  | _, x :: xs, ⟨cs, rest, h, hr, hf⟩, u, hu => by
    rw [h] at hu
    rcases List.mem_append.mp hu with h1 | h1
    · exact ho w S cs x hr u h1
    · exact flat_ones ho hf u h1
theorem flat_plain {α : Type} {k : Kd α} (hp : Plain k) {w w' : World} {S S' : Nat → Prop} : ∀ {rows : List Value} {xs : List α}, Flat k w S rows xs → Flat k w' S' rows xs
  | _, [], h => h
  | _, _ :: _, ⟨cs, rest, h, hr, hf⟩ => ⟨cs, rest, h, hp _ _ _ _ _ _ hr, flat_plain hp hf⟩
theorem flat_append {α : Type} {k : Kd α} {w : World} {S : Nat → Prop} : ∀ {rows news : List Value} {xs ys : List α}, Flat k w S rows xs → Flat k w S news ys → Flat k w S (rows ++ news) (xs ++ ys)
  | _, _, [], _, h, h2 => by rw [show _ = [] from h]; exact h2
  | _, news, _ :: _, _, ⟨cs, rest, h, hr, hf⟩, h2 => ⟨cs, rest ++ news, by rw [h, List.append_assoc], hr, flat_append hf h2⟩
/-- What an append leaves. -/
structure Apped {α : Type} (k : Kd α) (E : TypeId) (W w : World) (p : Option Nat) (q : Nat) (zs : List α) (A' : Option Addr) (c' : Nat) (w' : World) : Prop where
  own : OwnF k E W w' A' q c' zs
  size : w.heap.size ≤ w'.heap.size
  grown : ∀ X : World, Grow X w → (∀ q, p = some q → X.heap.size ≤ q) → Grow X w'
  block : ∀ b, b < w.heap.size → p ≠ some b → w'.heap[b]? = w.heap[b]?
  place : blockOf A' = p ∨ ∃ g, blockOf A' = some g ∧ w.heap.size ≤ g
theorem run_app {P : Program} {α : Type} {k : Kd α} (hp : Plain k) (ho : Ones k) {t E ty : TypeId} {bytes : Nat} (he : ElemOk P t E k.n bytes) {W w : World} {A : Option Addr} {n c : Nat} {xs : List α} (own : OwnF k E W w A n c xs)
    {S : Nat → Prop} {B : Option Addr} {m cb : Nat} {ys : List α} (src : IsSl k w S B m cb ys) (h63 : n + m ≤ maxLen) (hb : (n + m) * bytes ≤ 140737488355328) :
    ∃ A' c' w', (Builtin.append_ #[t, t] ty #[.slice A n c, .slice B m cb]).run P w = .ok (.slice A' (n + m) c') w' ∧ Apped k E W w (blockOf A) (n + m) (xs ++ ys) A' c' w' := by
  obtain ⟨i, z, ht, hi, hz, hs, hby, hzs, h0⟩ := he
  obtain ⟨h1, h2, h3, h4⟩ := src
  rcases Nat.eq_zero_or_pos m with hm | hm
  · subst hm
    obtain rfl : ys = [] := List.eq_nil_of_length_eq_zero h1
    have hle := own.le
    have hsrc : Src P i.size t (.slice B 0 cb) 0 [] w := by
      cases B with
      | none => exact Src.ofNil w ht cb
      | some ad => exact Src.ofSlice w ht ad 0 cb [] (by simp) (fun j u h => by simp at h) (fun u h => by cases h)
    refine ⟨A, c, w, run_append_nothing w t t ty E i ht hi A n c hle.1 _ hsrc, by rw [List.append_nil]; exact own, Nat.le_refl _, fun _ h _ => h, fun _ _ _ => rfl, .inl rfl⟩
  · obtain ⟨b, off, rfl, _, hx⟩ := h4 hm
    obtain ⟨news, hf, hn⟩ := flat_cells ys off hx
    obtain ⟨rows, o1, o2, o3, o4⟩ := own
    obtain ⟨g, cap, w', hr, q1, q2, q3, q4⟩ := run_append_lies (P := P) w t ty W.heap.size E i z k.n bytes ht hi hz hs hby hzs h0 (.slice A n c) n rows o1 ⟨b, off, none⟩ m cb news (by rw [hf.length, h1]) (fun j u hj => by
      have := hn j u hj
      rw [← this]
      unfold Addr.add; split <;> simp_all) (flat_ones ho hf) hm h63 hb o4.size w.heap.size rfl
    have hbl : (Value.slice A n c).ownBlock = blockOf A := by cases A <;> rfl
    rw [hbl] at q2
    have hA : ∀ q, blockOf A = some q → W.heap.size ≤ q := fun q hq => by
      rcases A with _ | a
      · cases hq
      · simp only [blockOf, Option.some.injEq] at hq
        subst hq
        obtain ⟨_, ⟨h0', _⟩ | ⟨g', cap', cur, hv, hB, _⟩⟩ := o1
        · cases h0'
        · simp only [Value.slice.injEq, Option.some.injEq] at hv
          rw [hv.1]; exact hB
    have hG : ∀ X : World, Grow X w → (∀ q, blockOf A = some q → X.heap.size ≤ q) → Grow X w' := fun X hX hq => Below.grown hX q2 hX.size hq
    exact ⟨some ⟨g, 0, none⟩, cap, w', hr, ⟨_, q1, flat_append (flat_plain hp o2) (flat_plain hp hf), by rw [List.length_append, o3, h1], hG W o4 hA⟩, q2.4, hG, fun b' hb' hne => q2.5 b' hb' (fun e => hne e.symm), by rcases q3 with q3 | q3; exact .inl (by rw [← hbl]; exact q3.symm); exact .inr ⟨g, rfl, Nat.le_of_eq q3.symm⟩⟩
theorem Apped.apart {α : Type} {k : Kd α} {E : TypeId} {W w : World} {p : Option Nat} {q : Nat} {zs : List α} {A' : Option Addr} {c' : Nat} {w' : World} (h : Apped k E W w p q zs A' c' w') {b : Nat} (hb : b < w.heap.size) (hp : p ≠ some b) :
    b < w'.heap.size ∧ blockOf A' ≠ some b ∧ w'.heap[b]? = w.heap[b]? :=
  ⟨Nat.lt_of_lt_of_le hb h.size, fun e => by
    rcases h.place with h1 | ⟨g, h1, h2⟩
    · exact hp (h1 ▸ e)
    · rw [h1] at e; cases e; omega, h.block b hb hp⟩
section
variable {P : Program} {α : Type} {k : Kd α} {t E : TypeId} {bytes : Nat} {W w : World} {A B : Option Addr} {n c m cb : Nat} {xs ys : List α} {S : Nat → Prop}
theorem wp_app (hp : Plain k) (ho : Ones k) (he : ElemOk P t E k.n bytes) {o : Oper} {a : Act} {K : Act → World → Prop} {Q : Exit → Act → World → Prop} (s x : Operand)
    (hop : o.op = .call { callee := .builtin .append, args := #[s, x], argTypes := #[t, t] }) (hs : a.eval s = .slice A n c) (own : OwnF k E W w A n c xs) (hx : a.eval x = .slice B m cb) (src : IsSl k w S B m cb ys) {q : Nat} (hq : n + m = q) (h63 : q ≤ maxLen) (hb : q * bytes ≤ 140737488355328)
    (h : ∀ A' c' w', Apped k E W w (blockOf A) q (xs ++ ys) A' c' w' → K (a.put o.dst (.slice A' q c')) w') : o.wp P a w K Q := by
  subst hq
  obtain ⟨A', c', w', hr, hq⟩ := run_app (P := P) (ty := o.type) hp ho he own src h63 hb
  unfold Oper.wp execOp
  simp only [hop, resolve, invoke, builtin, Sem.run_bind, Sem.run_pure, Result.andThen_ok, List.map_toArray, List.map_cons, List.map_nil, hs, hx, hr]
  exact h A' c' w' hq
theorem wpList_app (hp : Plain k) (ho : Ones k) (he : ElemOk P t E k.n bytes) {ops : Array Oper} {rest : List Oper} {o : Oper} {a : Act} {Q : Exit → Act → World → Prop} (hgd : o.guard = none) (s x : Operand)
    (hop : o.op = .call { callee := .builtin .append, args := #[s, x], argTypes := #[t, t] }) (hs : a.eval s = .slice A n c) (own : OwnF k E W w A n c xs) (hx : a.eval x = .slice B m cb) (src : IsSl k w S B m cb ys) {q : Nat} (hq : n + m = q) (h63 : q ≤ maxLen) (hb : q * bytes ≤ 140737488355328)
    (h : ∀ A' c' w', Apped k E W w (blockOf A) q (xs ++ ys) A' c' w' → wpList P ops Q rest (a.put o.dst (.slice A' q c')) w') : wpList P ops Q (o :: rest) a w :=
  wpList_plain hgd fun _ hK => wp_app hp ho he s x hop hs own hx src hq h63 hb fun A' c' w' hap => hK _ _ (h A' c' w' hap)
theorem step_app (hp : Plain k) (ho : Ones k) (he : ElemOk P t E k.n bytes) {ops : Array Oper} {o : Oper} {a : Act} {K : Act → World → Prop} {Q : Exit → Act → World → Prop} {Z : Prop} (hgd : o.guard = none) (s x : Operand)
    (hop : o.op = .call { callee := .builtin .append, args := #[s, x], argTypes := #[t, t] }) (hs : a.eval s = .slice A n c) (own : OwnF k E W w A n c xs) (hx : a.eval x = .slice B m cb) (src : IsSl k w S B m cb ys) {q : Nat} (hq : n + m = q) (h63 : q ≤ maxLen) (hb : q * bytes ≤ 140737488355328)
    (h : ∀ A' c' w', Apped k E W w (blockOf A) q (xs ++ ys) A' c' w' → K (a.put o.dst (.slice A' q c')) w') : if Region.wanted o (yielded ops a.tmps) = true then Oper.wp P o a w K Q else Z := by
  have hw : Region.wanted o (yielded ops a.tmps) = true := by simp [Region.wanted, hgd]
  rw [if_pos hw]
  exact wp_app hp ho he s x hop hs own hx src hq h63 hb h
end
/-- One element in a block of its own. -/
theorem isSl_one {α : Type} {k : Kd α} (hn : 0 < k.n) {w : World} {b : Nat} {cs : Array Value} {T : TypeId} {fr : Nat × Nat} {x : α} (h : w.heap[b]? = some (.cells cs T fr)) (hr : k.rd w (fun _ => True) cs.toList x) : IsSl k w (fun _ => True) (some ⟨b, 0, none⟩) 1 1 [x] := by
  refine ⟨rfl, Nat.le_refl _, by simp [maxLen], fun _ => ⟨b, 0, rfl, trivial, fun i hi => ⟨cs.toList, fun j hj => ?_, ?_⟩⟩⟩
  · obtain rfl : i = 0 := by simp at hi; omega
    rw [cell_of h]
    simp
  · obtain rfl : i = 0 := by simp at hi; omega
    exact hr
theorem elem_int : ElemOk Tryz.prog 29 2 1 8 := elemOk_of Tryz.underlying29 info_int rfl (by decide)
theorem elem_val : ElemOk Tryz.prog 45 50 3 32 := elemOk_of Tryz.underlying45 info_val rfl (by decide)
theorem elem_tok : ElemOk Tryz.prog 111 108 5 48 := elemOk_of Tryz.underlying111 info_tok rfl (by decide)
end Go.Proofs.YtjeilgogjoidjaaGreat
