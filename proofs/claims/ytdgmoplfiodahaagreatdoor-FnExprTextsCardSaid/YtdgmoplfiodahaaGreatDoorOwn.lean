import Derived.Test.YtdgmoplfiodahaaGreatDoorApp
import Derived.Test.YtdgmoplfiodahaaGreatDoorRd
/-! Slices of a call's own whose elements may lead to memory of their own: appends to them, beside a reader. -/
namespace Go.Proofs.YtdgmoplfiodahaaGreatDoor
open Go.RowKit
set_option linter.unusedVariables false
set_option linter.unusedSimpArgs false
/-- Where the elements of a slice of one's own may lead to: new blocks, but not the slice's own. -/
def Led (B : Nat) (w : World) (A : Option Addr) (b : Nat) : Prop := Fresh B w b ∧ blockOf A ≠ some b
def OwnG {α : Type} (k : Kd α) (E : TypeId) (B : Nat) (w : World) (A : Option Addr) (n c : Nat) (xs : List α) : Prop :=
  ∃ rows, w.ownsRow B E k.n (.slice A n c) n rows ∧ Flat k w (Led B w A) rows xs ∧ xs.length = n
section
variable {α : Type} {k : Kd α} {E : TypeId} {B : Nat} {w w' : World} {A : Option Addr} {n c : Nat} {xs : List α}
theorem OwnG.isSl (h : OwnG k E B w A n c xs) : IsSl k w (Fresh B w) A n c xs := by
  obtain ⟨rows, h1, h2, h3⟩ := h
  exact own_isSl h1 h2 h3 (fun _ h => h.1) (fun b hB hlt hfr => ⟨hB, hlt, hfr⟩)
theorem OwnG.len (h : OwnG k E B w A n c xs) : xs.length = n := h.choose_spec.2.2
theorem OwnG.le (h : OwnG k E B w A n c xs) : n ≤ c ∧ c ≤ maxLen := ⟨h.isSl.2.1, h.isSl.2.2.1⟩
theorem OwnG.baseB (h : OwnG k E B w A n c xs) : ∀ q, blockOf A = some q → B ≤ q ∧ q < w.heap.size := fun q hq => by
  obtain ⟨rows, ⟨hr, ⟨h0, _⟩ | ⟨g, cap', cur, hv, hB, hh, hle, hmx, hs, ht⟩⟩, h2, h3⟩ := h
  · simp only [Value.slice.injEq] at h0
    rw [h0.1] at hq; cases hq
  · simp only [Value.slice.injEq] at hv
    rw [hv.1] at hq
    cases hq
    refine ⟨hB, ?_⟩
    rcases Nat.lt_or_ge g w.heap.size with h' | h'
    · exact h'
    · simp [Array.getElem?_eq_none h'] at hh
theorem OwnG.keep (h : OwnG k E B w A n c xs) (hs : w.heap.size ≤ w'.heap.size) (hb : ∀ b, B ≤ b → b < w.heap.size → w'.heap[b]? = w.heap[b]?) : OwnG k E B w' A n c xs := by
  have hbase := h.baseB
  obtain ⟨rows, h1, h2, h3⟩ := h
  refine ⟨rows, ⟨h1.1, ?_⟩, h2.mono (fun b hb' => ⟨hb'.1.step hs (hb b hb'.1.1 hb'.1.2.1), hb'.2⟩) fun b hb' => hb b hb'.1.1 hb'.1.2.1, h3⟩
  rcases h1.2 with h0 | ⟨g, cap', cur, hv, hB, hh, hrest⟩
  · exact .inl h0
  · simp only [Value.slice.injEq] at hv
    obtain ⟨q1, q2⟩ := hbase g (by rw [hv.1]; rfl)
    exact .inr ⟨g, cap', cur, by rw [hv.1, hv.2.2], hB, by rw [hb g q1 q2]; exact hh, hrest⟩
theorem OwnG.grow (h : OwnG k E B w A n c xs) (hg : Grow w w') : OwnG k E B w' A n c xs := h.keep hg.size fun b _ hb => hg.block hb
theorem OwnG.growX {g : Nat} (h : OwnG k E B w A n c xs) (hg : GrowX g w w') (hB : g < B) : OwnG k E B w' A n c xs := h.keep hg.size fun b hb hb' => hg.block b hb' (by omega)
theorem OwnG.low {B' : Nat} (h : OwnG k E B w A n c xs) (hB : B' ≤ B) : OwnG k E B' w A n c xs := by
  obtain ⟨rows, h1, h2, h3⟩ := h
  refine ⟨rows, ⟨h1.1, ?_⟩, h2.mono (fun b hb => ⟨hb.1.low hB, hb.2⟩) fun _ _ => rfl, h3⟩
  rcases h1.2 with h0 | ⟨g, cap', cur, hv, hb, hrest⟩
  · exact .inl h0
  · exact .inr ⟨g, cap', cur, hv, Nat.le_trans hB hb, hrest⟩
theorem OwnG.nil : OwnG k E B w none 0 0 [] := ⟨[], ⟨by simp, .inl ⟨rfl, rfl⟩⟩, rfl, rfl⟩
theorem OwnG.made (hB : B ≤ w.heap.size) : OwnG k E B (w.alloc (.cells #[] E)) (some ⟨w.heap.size, 0, none⟩) 0 0 [] :=
  ⟨[], ⟨by simp, .inr ⟨w.heap.size, 0, #[], rfl, hB, new_block _ _, Nat.le_refl _, Nat.zero_le _, by simp, by simp⟩⟩, rfl, rfl⟩
end
structure AppedG {α : Type} (k : Kd α) (E : TypeId) (B : Nat) (w : World) (p : Option Nat) (q : Nat) (zs : List α) (A' : Option Addr) (c' : Nat) (w' : World) : Prop where
  own : OwnG k E B w' A' q c' zs
  os : w'.os = w.os
  tape : w'.tape = w.tape
  output : w'.output = w.output
  size : w.heap.size ≤ w'.heap.size
  block : ∀ b, b < w.heap.size → p ≠ some b → w'.heap[b]? = w.heap[b]?
  base : ∀ q, p = some q → B ≤ q
  place : blockOf A' = p ∨ ∃ g, blockOf A' = some g ∧ w.heap.size ≤ g
section
variable {α : Type} {k : Kd α} {E : TypeId} {B : Nat} {w w' X : World} {p : Option Nat} {q c' : Nat} {zs : List α} {A' : Option Addr}
theorem AppedG.grow (h : AppedG k E B w p q zs A' c' w') (hX : Grow X w) (hB : X.heap.size ≤ B) : Grow X w' :=
  ⟨h.os.trans (Below.os hX), h.tape.trans (Below.tape hX), h.output.trans (Below.output hX), Nat.le_trans hX.size h.size, fun b hb => by
    rw [h.block b (Nat.lt_of_lt_of_le hb hX.size) (fun e => by have := h.base b e; omega)]; exact hX.block hb⟩
theorem AppedG.growX {g : Nat} (h : AppedG k E B w p q zs A' c' w') (hX : GrowX g X w) (hB : X.heap.size ≤ B) : GrowX g X w' :=
  ⟨h.os.trans hX.os, h.tape.trans hX.tape, h.output.trans hX.output, Nat.le_trans hX.size h.size, fun b hb hn => by
    rw [h.block b (Nat.lt_of_lt_of_le hb hX.size) (fun e => by have := h.base b e; omega)]; exact hX.block b hb hn⟩
theorem AppedG.rd {g : Nat} (h : AppedG k E B w p q zs A' c' w') (hR : IsRd w g) (hB : g < B) : IsRd w' g :=
  hR.keep fun b hb => h.block b (Nat.lt_of_le_of_lt hb hR.lt) (fun e => by have := h.base b e; omega)
theorem AppedG.apart (h : AppedG k E B w p q zs A' c' w') {b : Nat} (hb : b < w.heap.size) (hp : p ≠ some b) : b < w'.heap.size ∧ blockOf A' ≠ some b ∧ w'.heap[b]? = w.heap[b]? :=
  ⟨Nat.lt_of_lt_of_le hb h.size, fun e => by
    rcases h.place with h1 | ⟨g, h1, h2⟩
    · exact hp (h1 ▸ e)
    · rw [h1] at e; cases e; omega, h.block b hb hp⟩
end
theorem isSl_flat {α : Type} {k : Kd α} {w : World} {S : Nat → Prop} {b off m cb : Nat} {ys : List α} (src : IsSl k w S (some ⟨b, off, none⟩) m cb ys) : ∃ news, Flat k w S news ys ∧ ∀ j u, news[j]? = some u → w.cell? ⟨b, off + j, none⟩ = some u := by
  obtain ⟨h1, h2, h3, h4⟩ := src
  rcases Nat.eq_zero_or_pos m with hm | hm
  · subst hm
    obtain rfl : ys = [] := List.eq_nil_of_length_eq_zero h1
    exact ⟨[], rfl, fun j u h => by simp at h⟩
  · obtain ⟨b', off', e, _, hx⟩ := h4 hm
    cases e
    exact flat_cells ys off hx
theorem run_appG {P : Program} {α : Type} {k : Kd α} (ho : Ones k) {t E ty : TypeId} {bytes : Nat} (he : ElemOk P t E k.n bytes) {B0 : Nat} {w : World} {A : Option Addr} {n c : Nat} {xs : List α} (own : OwnG k E B0 w A n c xs) (hB0 : B0 ≤ w.heap.size)
    {S : Nat → Prop} {B : Option Addr} {m cb : Nat} {ys : List α} (src : IsSl k w S B m cb ys) (conv : ∀ rows, Flat k w S rows ys → Flat k w (Led B0 w A) rows ys) (h63 : n + m ≤ maxLen) (hb : (n + m) * bytes ≤ 140737488355328) :
    ∃ A' c' w', (Builtin.append_ #[t, t] ty #[.slice A n c, .slice B m cb]).run P w = .ok (.slice A' (n + m) c') w' ∧ AppedG k E B0 w (blockOf A) (n + m) (xs ++ ys) A' c' w' := by
  obtain ⟨i, z, ht, hi, hz, hs, hby, hzs, h0⟩ := he
  have hA : ∀ q, blockOf A = some q → B0 ≤ q := fun q hq => (own.baseB q hq).1
  obtain ⟨h1, h2, h3, h4⟩ := src
  rcases Nat.eq_zero_or_pos m with hm | hm
  · subst hm
    obtain rfl : ys = [] := List.eq_nil_of_length_eq_zero h1
    have hle := own.le
    have hsrc : Src P i.size t (.slice B 0 cb) 0 [] w := by
      cases B with
      | none => exact Src.ofNil w ht cb
      | some ad => exact Src.ofSlice w ht ad 0 cb [] (by simp) (fun j u h => by simp at h) (fun u h => by cases h)
    refine ⟨A, c, w, run_append_nothing w t t ty E i ht hi A n c hle.1 _ hsrc, by rw [List.append_nil]; exact own, rfl, rfl, rfl, Nat.le_refl _, fun _ _ _ => rfl, hA, .inl rfl⟩
  · obtain ⟨b, off, rfl, _, hx⟩ := h4 hm
    obtain ⟨news, hf, hn⟩ := flat_cells ys off hx
    obtain ⟨rows, o1, o2, o3⟩ := own
    obtain ⟨g, cap, w', hr, q1, q2, q3, q4⟩ := run_append_lies (P := P) w t ty B0 E i z k.n bytes ht hi hz hs hby hzs h0 (.slice A n c) n rows o1 ⟨b, off, none⟩ m cb news (by rw [hf.length, h1]) (fun j u hj => by
      have := hn j u hj
      rw [← this]
      unfold Addr.add; split <;> simp_all) (flat_ones ho hf) hm h63 hb hB0 w.heap.size rfl
    have hbl : (Value.slice A n c).ownBlock = blockOf A := by cases A <;> rfl
    rw [hbl] at q2
    have hplace : blockOf (some (⟨g, 0, none⟩ : Addr)) = blockOf A ∨ ∃ g', blockOf (some (⟨g, 0, none⟩ : Addr)) = some g' ∧ w.heap.size ≤ g' := by
      rcases q3 with q3 | q3
      · exact .inl (by rw [← hbl]; exact q3.symm)
      · exact .inr ⟨g, rfl, Nat.le_of_eq q3.symm⟩
    have hblk : ∀ b', b' < w.heap.size → blockOf A ≠ some b' → w'.heap[b']? = w.heap[b']? := fun b' hb' hne => q2.5 b' hb' (fun e => hne e.symm)
    have hled : ∀ b', Led B0 w A b' → Led B0 w' (some ⟨g, 0, none⟩) b' := fun b' hb' => ⟨hb'.1.step q2.4 (hblk b' hb'.1.2.1 hb'.2), fun e => by
      rcases hplace with h | ⟨g', h, hg'⟩
      · exact hb'.2 (h ▸ e)
      · rw [h] at e; cases e; have := hb'.1.2.1; omega⟩
    have hfl : Flat k w (Led B0 w A) (rows ++ news) (xs ++ ys) := flat_append o2 (conv _ hf)
    exact ⟨some ⟨g, 0, none⟩, cap, w', hr, ⟨_, q1, hfl.mono hled (fun b' hb' => hblk b' hb'.1.2.1 hb'.2), by rw [List.length_append, o3, h1]⟩, q2.1, q2.2, q2.3, q2.4, hblk, hA, hplace⟩
section
variable {P : Program} {α : Type} {k : Kd α} {t E : TypeId} {bytes : Nat} {B0 : Nat} {w : World} {A B : Option Addr} {n c m cb : Nat} {xs ys : List α} {S : Nat → Prop}
theorem wp_appG (ho : Ones k) (he : ElemOk P t E k.n bytes) {o : Oper} {a : Act} {K : Act → World → Prop} {Q : Exit → Act → World → Prop} (s x : Operand)
    (hop : o.op = .call { callee := .builtin .append, args := #[s, x], argTypes := #[t, t] }) (hs : a.eval s = .slice A n c) (own : OwnG k E B0 w A n c xs) (hB0 : B0 ≤ w.heap.size) (hx : a.eval x = .slice B m cb) (src : IsSl k w S B m cb ys) (conv : ∀ rows, Flat k w S rows ys → Flat k w (Led B0 w A) rows ys) {q : Nat} (hq : n + m = q) (h63 : q ≤ maxLen) (hb : q * bytes ≤ 140737488355328)
    (h : ∀ A' c' w', AppedG k E B0 w (blockOf A) q (xs ++ ys) A' c' w' → K (a.put o.dst (.slice A' q c')) w') : o.wp P a w K Q := by
  subst hq
  obtain ⟨A', c', w', hr, hq⟩ := run_appG (P := P) (ty := o.type) ho he own hB0 src conv h63 hb
  unfold Oper.wp execOp
  simp only [hop, resolve, invoke, builtin, Sem.run_bind, Sem.run_pure, Result.andThen_ok, List.map_toArray, List.map_cons, List.map_nil, hs, hx, hr]
  exact h A' c' w' hq
theorem wpList_appG (ho : Ones k) (he : ElemOk P t E k.n bytes) {ops : Array Oper} {rest : List Oper} {o : Oper} {a : Act} {Q : Exit → Act → World → Prop} (hgd : o.guard = none) (s x : Operand)
    (hop : o.op = .call { callee := .builtin .append, args := #[s, x], argTypes := #[t, t] }) (hs : a.eval s = .slice A n c) (own : OwnG k E B0 w A n c xs) (hB0 : B0 ≤ w.heap.size) (hx : a.eval x = .slice B m cb) (src : IsSl k w S B m cb ys) (conv : ∀ rows, Flat k w S rows ys → Flat k w (Led B0 w A) rows ys) {q : Nat} (hq : n + m = q) (h63 : q ≤ maxLen) (hb : q * bytes ≤ 140737488355328)
    (h : ∀ A' c' w', AppedG k E B0 w (blockOf A) q (xs ++ ys) A' c' w' → wpList P ops Q rest (a.put o.dst (.slice A' q c')) w') : wpList P ops Q (o :: rest) a w :=
  wpList_plain hgd fun _ hK => wp_appG ho he s x hop hs own hB0 hx src conv hq h63 hb fun A' c' w' hap => hK _ _ (h A' c' w' hap)
theorem step_appG (ho : Ones k) (he : ElemOk P t E k.n bytes) {ops : Array Oper} {o : Oper} {a : Act} {K : Act → World → Prop} {Q : Exit → Act → World → Prop} {Z : Prop} (hgd : o.guard = none) (s x : Operand)
    (hop : o.op = .call { callee := .builtin .append, args := #[s, x], argTypes := #[t, t] }) (hs : a.eval s = .slice A n c) (own : OwnG k E B0 w A n c xs) (hB0 : B0 ≤ w.heap.size) (hx : a.eval x = .slice B m cb) (src : IsSl k w S B m cb ys) (conv : ∀ rows, Flat k w S rows ys → Flat k w (Led B0 w A) rows ys) {q : Nat} (hq : n + m = q) (h63 : q ≤ maxLen) (hb : q * bytes ≤ 140737488355328)
    (h : ∀ A' c' w', AppedG k E B0 w (blockOf A) q (xs ++ ys) A' c' w' → K (a.put o.dst (.slice A' q c')) w') : if Region.wanted o (yielded ops a.tmps) = true then Oper.wp P o a w K Q else Z := by
  have hw : Region.wanted o (yielded ops a.tmps) = true := by simp [Region.wanted, hgd]
  rw [if_pos hw]
  exact wp_appG ho he s x hop hs own hB0 hx src conv hq h63 hb h
end
theorem conv_plain {α : Type} {k : Kd α} (hp : Plain k) {w : World} {S : Nat → Prop} {B0 : Nat} {A : Option Addr} {ys : List α} : ∀ rows, Flat k w S rows ys → Flat k w (Led B0 w A) rows ys := fun _ h => flat_plain hp h
theorem conv_led {α : Type} {k : Kd α} {w : World} {S : Nat → Prop} {B0 : Nat} {A : Option Addr} {ys : List α} (h : ∀ b, S b → Led B0 w A b) : ∀ rows, Flat k w S rows ys → Flat k w (Led B0 w A) rows ys := fun _ hf => hf.mono h fun _ _ => rfl
/-- A store into an element. -/
theorem flat_set {α : Type} {k : Kd α} {w : World} {S : Nat → Prop} {j : Nat} (hj : j < k.n) (v : Value) {y : α} : ∀ {rows : List Value} {xs : List α} {i : Nat} {x : α}, Flat k w S rows xs → xs[i]? = some x → (∀ cs, k.rd w S cs x → k.rd w S (cs.set j v) y) → Flat k w S (rows.set (i * k.n + j) v) (xs.set i y)
  | _, [], _, _, _, hx, _ => by simp at hx
  | _, x0 :: xs, 0, x, ⟨cs, rest, h, hr, hf⟩, hx, hy => by
    obtain rfl : x0 = x := by simpa using hx
    subst h
    have hl := k.len hr
    rw [Nat.zero_mul, Nat.zero_add, List.set_append_left _ _ (by omega)]
    exact ⟨_, rest, rfl, hy cs hr, hf⟩
  | _, x0 :: xs, i + 1, x, ⟨cs, rest, h, hr, hf⟩, hx, hy => by
    subst h
    have hl := k.len hr
    have hi : (i + 1) * k.n + j = cs.length + (i * k.n + j) := by rw [Nat.add_mul, Nat.one_mul]; omega
    rw [hi, List.set_append_right _ _ (by omega), Nat.add_sub_cancel_left]
    exact ⟨cs, _, rfl, hr, flat_set hj v hf (by simpa using hx) hy⟩
theorem OwnG.put1 {α : Type} {k : Kd α} {E : TypeId} {B : Nat} {w : World} {p n c i j : Nat} {xs : List α} {x y : α} {v : Value} (h : OwnG k E B w (some ⟨p, 0, none⟩) n c xs) (hx : xs[i]? = some x) (hj : j < k.n)
    (hy : ∀ cs, k.rd w (Led B w (some ⟨p, 0, none⟩)) cs x → k.rd w (Led B w (some ⟨p, 0, none⟩)) (cs.set j v) y) : OwnG k E B (w.setCell ⟨p, i * k.n + j, none⟩ v) (some ⟨p, 0, none⟩) n c (xs.set i y) := by
  obtain ⟨rows, ⟨hr, h0 | ⟨g, cap', cur, hv, hB, hh, hle, hmx, hs, ht⟩⟩, h2, h3⟩ := h
  · cases h0.1
  · simp only [Value.slice.injEq, Option.some.injEq, Addr.mk.injEq, and_true, true_and] at hv
    obtain ⟨rfl, rfl⟩ := hv
    have hled : ∀ b, Led B w (some ⟨p, 0, none⟩) b → Led B (w.setCell ⟨p, i * k.n + j, none⟩ v) (some ⟨p, 0, none⟩) b ∧ (w.setCell ⟨p, i * k.n + j, none⟩ v).heap[b]? = w.heap[b]? := fun b hb => by
      have hne : b ≠ p := fun e => hb.2 (by rw [e]; rfl)
      have he : (w.setCell ⟨p, i * k.n + j, none⟩ v).heap[b]? = w.heap[b]? := Below.heap_setCell _ _ _ _ hne
      exact ⟨⟨hb.1.step (by simp [World.setCell]) he, hb.2⟩, he⟩
    refine ⟨rows.set (i * k.n + j) v, ⟨by rw [List.length_set]; exact hr, .inr ⟨p, c, _, rfl, hB, put_own hh _ v, hle, hmx, by simp [hs], ?_⟩⟩, (flat_set hj v h2 hx hy).mono (fun b hb => (hled b hb).1) (fun b hb => (hled b hb).2), by rw [List.length_set]; exact h3⟩
    rw [← ht, Array.toList_setIfInBounds, List.take_set]
/-- (what a store into a slice's own block leaves) -/
theorem GrowX.put {g : Nat} {a w : World} (h : GrowX g a w) {p o : Nat} (hp : a.heap.size ≤ p) (v : Value) : GrowX g a (w.setCell ⟨p, o, none⟩ v) := h.setOwn hp v
/-- A fresh literal of one element, owned. -/
theorem OwnG.lit {α : Type} {k : Kd α} {E : TypeId} {B : Nat} {w : World} {b m : Nat} {cs : Array Value} {xs : List α} (h : w.heap[b]? = some (.cells cs E (0, 0))) (hB : B ≤ b) (hf : Flat k w (Led B w (some ⟨b, 0, none⟩)) cs.toList xs) (hl : xs.length = m) (hm : m ≤ maxLen) : OwnG k E B w (some ⟨b, 0, none⟩) m m xs := by
  have hn := hf.length
  rw [Array.length_toList, hl] at hn
  exact ⟨cs.toList, ⟨by rw [Array.length_toList, hn], .inr ⟨b, m, cs, rfl, hB, h, Nat.le_refl _, hm, hn, by rw [List.take_of_length_le (by rw [Array.length_toList, hn]; exact Nat.le_refl _)]⟩⟩, hf, hl⟩
theorem flat_one {α : Type} {k : Kd α} {w : World} {S : Nat → Prop} {cs : List Value} {x : α} (hr : k.rd w S cs x) : Flat k w S cs [x] := by
  have : Flat k w S ([] ++ cs) ([] ++ [x]) := Flat.append hr (by trivial)
  simpa using this
end Go.Proofs.YtdgmoplfiodahaaGreatDoor
