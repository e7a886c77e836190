import Derived.Test.YtjeilgogjoidjaaGreatApp
import Derived.Test.YtjeilgogjoidjaaGreatRd
import Derived.Test.YtjeilgogjoidjaaGreatMarkS
import Derived.Deep.DeepCutAuto
import Derived.Deep.CutBlock
import Derived.Test.YtjeilgogjoidjaaGreatDbNew
import Derived.Test.YtjeilgogjoidjaaGreatDataP
import Derived.Test.YtjeilgogjoidjaaGreatFlawsL
import Derived.Test.YtjeilgogjoidjaaGreatLib
import Derived.Test.YtjeilgogjoidjaaGreatWin
/-! What is drawn, and the plain laws of data: texts of their own, laid in one. -/
namespace Go.Proofs.YtjeilgogjoidjaaGreat
open Go.RowKit
set_option linter.unusedVariables false
set_option linter.unusedSimpArgs false
/-- Where the elements of a slice of one's own may lead to: new blocks, but not the slice's own. -/
def Led (B : Nat) (w : World) (A : Option Addr) (b : Nat) : Prop := Fresh B w b ∧ blockOf A ≠ some b
def OwnG {α : Type} (k : Kd α) (E : TypeId) (B : Nat) (w : World) (A : Option Addr) (n c : Nat) (xs : List α) : Prop :=
  ∃ rows, w.ownsRow B E k.n (.slice A n c) n rows ∧ Flat k w (Led B w A) rows xs ∧ xs.length = n
section
variable {α : Type} {k : Kd α} {E : TypeId} {B : Nat} {w w' : World} {A : Option Addr} {n c : Nat} {xs : List α}
theorem OwnG.isSl (h : OwnG k E B w A n c xs) : IsSl k w (Fresh B w) A n c xs := by
  obtain ⟨rows, h1, h2, h3⟩ := h
  exact own_isSl h1 h2 h3 (fun _ h => h.1) (fun b hB hlt hfr => ⟨hB, hlt, hfr⟩)
theorem OwnG.len (h : OwnG k E B w A n c xs) : xs.length = n := h.choose_spec.2.2
theorem OwnG.le (h : OwnG k E B w A n c xs) : n ≤ c ∧ c ≤ maxLen := ⟨h.isSl.2.1, h.isSl.2.2.1⟩
theorem OwnG.baseB (h : OwnG k E B w A n c xs) : ∀ q, blockOf A = some q → B ≤ q ∧ q < w.heap.size := fun q hq => by
  obtain ⟨rows, ⟨hr, ⟨h0, _⟩ | ⟨g, cap', cur, hv, hB, hh, hle, hmx, hs, ht⟩⟩, h2, h3⟩ := h
  · simp only [Value.slice.injEq] at h0
    rw [h0.1] at hq; cases hq
  · simp only [Value.slice.injEq] at hv
    rw [hv.1] at hq
    cases hq
    refine ⟨hB, ?_⟩
    rcases Nat.lt_or_ge g w.heap.size with h' | h'
    · exact h'
    · simp [Array.getElem?_eq_none h'] at hh
theorem OwnG.keep (h : OwnG k E B w A n c xs) (hs : w.heap.size ≤ w'.heap.size) (hb : ∀ b, B ≤ b → b < w.heap.size → w'.heap[b]? = w.heap[b]?) : OwnG k E B w' A n c xs := by
  have hbase := h.baseB
  obtain ⟨rows, h1, h2, h3⟩ := h
  refine ⟨rows, ⟨h1.1, ?_⟩, h2.mono (fun b hb' => ⟨hb'.1.step hs (hb b hb'.1.1 hb'.1.2.1), hb'.2⟩) fun b hb' => hb b hb'.1.1 hb'.1.2.1, h3⟩
  rcases h1.2 with h0 | ⟨g, cap', cur, hv, hB, hh, hrest⟩
  · exact .inl h0
  · simp only [Value.slice.injEq] at hv
    obtain ⟨q1, q2⟩ := hbase g (by rw [hv.1]; rfl)
    exact .inr ⟨g, cap', cur, by rw [hv.1, hv.2.2], hB, by rw [hb g q1 q2]; exact hh, hrest⟩
theorem OwnG.grow (h : OwnG k E B w A n c xs) (hg : Grow w w') : OwnG k E B w' A n c xs := h.keep hg.size fun b _ hb => hg.block hb
theorem OwnG.growX {g : Nat} (h : OwnG k E B w A n c xs) (hg : GrowX g w w') (hB : g < B) : OwnG k E B w' A n c xs := h.keep hg.size fun b hb hb' => hg.block b hb' (by omega)
theorem OwnG.low {B' : Nat} (h : OwnG k E B w A n c xs) (hB : B' ≤ B) : OwnG k E B' w A n c xs := by
  obtain ⟨rows, h1, h2, h3⟩ := h
  refine ⟨rows, ⟨h1.1, ?_⟩, h2.mono (fun b hb => ⟨hb.1.low hB, hb.2⟩) fun _ _ => rfl, h3⟩
  rcases h1.2 with h0 | ⟨g, cap', cur, hv, hb, hrest⟩
  · exact .inl h0
  · exact .inr ⟨g, cap', cur, hv, Nat.le_trans hB hb, hrest⟩
theorem OwnG.nil : OwnG k E B w none 0 0 [] := ⟨[], ⟨by simp, .inl ⟨rfl, rfl⟩⟩, rfl, rfl⟩
theorem OwnG.made (hB : B ≤ w.heap.size) : OwnG k E B (w.alloc (.cells #[] E)) (some ⟨w.heap.size, 0, none⟩) 0 0 [] :=
  ⟨[], ⟨by simp, .inr ⟨w.heap.size, 0, #[], rfl, hB, new_block _ _, Nat.le_refl _, Nat.zero_le _, by simp, by simp⟩⟩, rfl, rfl⟩
end
structure AppedG {α : Type} (k : Kd α) (E : TypeId) (B : Nat) (w : World) (p : Option Nat) (q : Nat) (zs : List α) (A' : Option Addr) (c' : Nat) (w' : World) : Prop where
  own : OwnG k E B w' A' q c' zs
  os : w'.os = w.os
  tape : w'.tape = w.tape
  output : w'.output = w.output
  size : w.heap.size ≤ w'.heap.size
  block : ∀ b, b < w.heap.size → p ≠ some b → w'.heap[b]? = w.heap[b]?
  base : ∀ q, p = some q → B ≤ q
  place : blockOf A' = p ∨ ∃ g, blockOf A' = some g ∧ w.heap.size ≤ g
section
variable {α : Type} {k : Kd α} {E : TypeId} {B : Nat} {w w' X : World} {p : Option Nat} {q c' : Nat} {zs : List α} {A' : Option Addr}
theorem AppedG.grow (h : AppedG k E B w p q zs A' c' w') (hX : Grow X w) (hB : X.heap.size ≤ B) : Grow X w' :=
  ⟨h.os.trans (Below.os hX), h.tape.trans (Below.tape hX), h.output.trans (Below.output hX), Nat.le_trans hX.size h.size, fun b hb => by
    rw [h.block b (Nat.lt_of_lt_of_le hb hX.size) (fun e => by have := h.base b e; omega)]; exact hX.block hb⟩
theorem AppedG.growX {g : Nat} (h : AppedG k E B w p q zs A' c' w') (hX : GrowX g X w) (hB : X.heap.size ≤ B) : GrowX g X w' :=
  ⟨h.os.trans hX.os, h.tape.trans hX.tape, h.output.trans hX.output, Nat.le_trans hX.size h.size, fun b hb hn => by
    rw [h.block b (Nat.lt_of_lt_of_le hb hX.size) (fun e => by have := h.base b e; omega)]; exact hX.block b hb hn⟩
theorem AppedG.rd {g : Nat} (h : AppedG k E B w p q zs A' c' w') (hR : IsRd w g) (hB : g < B) : IsRd w' g :=
  hR.keep fun b hb => h.block b (Nat.lt_of_le_of_lt hb hR.lt) (fun e => by have := h.base b e; omega)
theorem AppedG.apart (h : AppedG k E B w p q zs A' c' w') {b : Nat} (hb : b < w.heap.size) (hp : p ≠ some b) : b < w'.heap.size ∧ blockOf A' ≠ some b ∧ w'.heap[b]? = w.heap[b]? :=
  ⟨Nat.lt_of_lt_of_le hb h.size, fun e => by
    rcases h.place with h1 | ⟨g, h1, h2⟩
    · exact hp (h1 ▸ e)
    · rw [h1] at e; cases e; omega, h.block b hb hp⟩
end
theorem isSl_flat {α : Type} {k : Kd α} {w : World} {S : Nat → Prop} {b off m cb : Nat} {ys : List α} (src : IsSl k w S (some ⟨b, off, none⟩) m cb ys) : ∃ news, Flat k w S news ys ∧ ∀ j u, news[j]? = some u → w.cell? ⟨b, off + j, none⟩ = some u := by
  obtain ⟨h1, h2, h3, h4⟩ := src
  rcases Nat.eq_zero_or_pos m with hm | hm
  · subst hm
    obtain rfl : ys = [] := List.eq_nil_of_length_eq_zero h1
    exact ⟨[], rfl, fun j u h => by simp at h⟩
  · obtain ⟨b', off', e, _, hx⟩ := h4 hm
    cases e
    exact flat_cells ys off hx
theorem run_appG {P : Program} {α : Type} {k : Kd α} (ho : Ones k) {t E ty : TypeId} {bytes : Nat} (he : ElemOk P t E k.n bytes) {B0 : Nat} {w : World} {A : Option Addr} {n c : Nat} {xs : List α} (own : OwnG k E B0 w A n c xs) (hB0 : B0 ≤ w.heap.size)
    {S : Nat → Prop} {B : Option Addr} {m cb : Nat} {ys : List α} (src : IsSl k w S B m cb ys) (conv : ∀ rows, Flat k w S rows ys → Flat k w (Led B0 w A) rows ys) (h63 : n + m ≤ maxLen) (hb : (n + m) * bytes ≤ 140737488355328) :
    ∃ A' c' w', (Builtin.append_ #[t, t] ty #[.slice A n c, .slice B m cb]).run P w = .ok (.slice A' (n + m) c') w' ∧ AppedG k E B0 w (blockOf A) (n + m) (xs ++ ys) A' c' w' := by
  obtain ⟨i, z, ht, hi, hz, hs, hby, hzs, h0⟩ := he
  have hA : ∀ q, blockOf A = some q → B0 ≤ q := fun q hq => (own.baseB q hq).1
  obtain ⟨h1, h2, h3, h4⟩ := src
  rcases Nat.eq_zero_or_pos m with hm | hm
  · subst hm
    obtain rfl : ys = [] := List.eq_nil_of_length_eq_zero h1
    have hle := own.le
    have hsrc : Src P i.size t (.slice B 0 cb) 0 [] w := by
      cases B with
      | none => exact Src.ofNil w ht cb
      | some ad => exact Src.ofSlice w ht ad 0 cb [] (by simp) (fun j u h => by simp at h) (fun u h => by cases h)
    refine ⟨A, c, w, run_append_nothing w t t ty E i ht hi A n c hle.1 _ hsrc, by rw [List.append_nil]; exact own, rfl, rfl, rfl, Nat.le_refl _, fun _ _ _ => rfl, hA, .inl rfl⟩
  · obtain ⟨b, off, rfl, _, hx⟩ := h4 hm
    obtain ⟨news, hf, hn⟩ := flat_cells ys off hx
    obtain ⟨rows, o1, o2, o3⟩ := own
    obtain ⟨g, cap, w', hr, q1, q2, q3, q4⟩ := run_append_lies (P := P) w t ty B0 E i z k.n bytes ht hi hz hs hby hzs h0 (.slice A n c) n rows o1 ⟨b, off, none⟩ m cb news (by rw [hf.length, h1]) (fun j u hj => by
      have := hn j u hj
      rw [← this]
      unfold Addr.add; split <;> simp_all) (flat_ones ho hf) hm h63 hb hB0 w.heap.size rfl
    have hbl : (Value.slice A n c).ownBlock = blockOf A := by cases A <;> rfl
    rw [hbl] at q2
    have hplace : blockOf (some (⟨g, 0, none⟩ : Addr)) = blockOf A ∨ ∃ g', blockOf (some (⟨g, 0, none⟩ : Addr)) = some g' ∧ w.heap.size ≤ g' := by
      rcases q3 with q3 | q3
      · exact .inl (by rw [← hbl]; exact q3.symm)
      · exact .inr ⟨g, rfl, Nat.le_of_eq q3.symm⟩
    have hblk : ∀ b', b' < w.heap.size → blockOf A ≠ some b' → w'.heap[b']? = w.heap[b']? := fun b' hb' hne => q2.5 b' hb' (fun e => hne e.symm)
    have hled : ∀ b', Led B0 w A b' → Led B0 w' (some ⟨g, 0, none⟩) b' := fun b' hb' => ⟨hb'.1.step q2.4 (hblk b' hb'.1.2.1 hb'.2), fun e => by
      rcases hplace with h | ⟨g', h, hg'⟩
      · exact hb'.2 (h ▸ e)
      · rw [h] at e; cases e; have := hb'.1.2.1; omega⟩
    have hfl : Flat k w (Led B0 w A) (rows ++ news) (xs ++ ys) := flat_append o2 (conv _ hf)
    exact ⟨some ⟨g, 0, none⟩, cap, w', hr, ⟨_, q1, hfl.mono hled (fun b' hb' => hblk b' hb'.1.2.1 hb'.2), by rw [List.length_append, o3, h1]⟩, q2.1, q2.2, q2.3, q2.4, hblk, hA, hplace⟩
section
variable {P : Program} {α : Type} {k : Kd α} {t E : TypeId} {bytes : Nat} {B0 : Nat} {w : World} {A B : Option Addr} {n c m cb : Nat} {xs ys : List α} {S : Nat → Prop}
theorem wp_appG (ho : Ones k) (he : ElemOk P t E k.n bytes) {o : Oper} {a : Act} {K : Act → World → Prop} {Q : Exit → Act → World → Prop} (s x : Operand)
    (hop : o.op = .call { callee := .builtin .append, args := #[s, x], argTypes := #[t, t] }) (hs : a.eval s = .slice A n c) (own : OwnG k E B0 w A n c xs) (hB0 : B0 ≤ w.heap.size) (hx : a.eval x = .slice B m cb) (src : IsSl k w S B m cb ys) (conv : ∀ rows, Flat k w S rows ys → Flat k w (Led B0 w A) rows ys) {q : Nat} (hq : n + m = q) (h63 : q ≤ maxLen) (hb : q * bytes ≤ 140737488355328)
    (h : ∀ A' c' w', AppedG k E B0 w (blockOf A) q (xs ++ ys) A' c' w' → K (a.put o.dst (.slice A' q c')) w') : o.wp P a w K Q := by
  subst hq
  obtain ⟨A', c', w', hr, hq⟩ := run_appG (P := P) (ty := o.type) ho he own hB0 src conv h63 hb
  unfold Oper.wp execOp
  simp only [hop, resolve, invoke, builtin, Sem.run_bind, Sem.run_pure, Result.andThen_ok, List.map_toArray, List.map_cons, List.map_nil, hs, hx, hr]
  exact h A' c' w' hq
theorem wpList_appG (ho : Ones k) (he : ElemOk P t E k.n bytes) {ops : Array Oper} {rest : List Oper} {o : Oper} {a : Act} {Q : Exit → Act → World → Prop} (hgd : o.guard = none) (s x : Operand)
    (hop : o.op = .call { callee := .builtin .append, args := #[s, x], argTypes := #[t, t] }) (hs : a.eval s = .slice A n c) (own : OwnG k E B0 w A n c xs) (hB0 : B0 ≤ w.heap.size) (hx : a.eval x = .slice B m cb) (src : IsSl k w S B m cb ys) (conv : ∀ rows, Flat k w S rows ys → Flat k w (Led B0 w A) rows ys) {q : Nat} (hq : n + m = q) (h63 : q ≤ maxLen) (hb : q * bytes ≤ 140737488355328)
    (h : ∀ A' c' w', AppedG k E B0 w (blockOf A) q (xs ++ ys) A' c' w' → wpList P ops Q rest (a.put o.dst (.slice A' q c')) w') : wpList P ops Q (o :: rest) a w :=
  wpList_plain hgd fun _ hK => wp_appG ho he s x hop hs own hB0 hx src conv hq h63 hb fun A' c' w' hap => hK _ _ (h A' c' w' hap)
theorem step_appG (ho : Ones k) (he : ElemOk P t E k.n bytes) {ops : Array Oper} {o : Oper} {a : Act} {K : Act → World → Prop} {Q : Exit → Act → World → Prop} {Z : Prop} (hgd : o.guard = none) (s x : Operand)
    (hop : o.op = .call { callee := .builtin .append, args := #[s, x], argTypes := #[t, t] }) (hs : a.eval s = .slice A n c) (own : OwnG k E B0 w A n c xs) (hB0 : B0 ≤ w.heap.size) (hx : a.eval x = .slice B m cb) (src : IsSl k w S B m cb ys) (conv : ∀ rows, Flat k w S rows ys → Flat k w (Led B0 w A) rows ys) {q : Nat} (hq : n + m = q) (h63 : q ≤ maxLen) (hb : q * bytes ≤ 140737488355328)
    (h : ∀ A' c' w', AppedG k E B0 w (blockOf A) q (xs ++ ys) A' c' w' → K (a.put o.dst (.slice A' q c')) w') : if Region.wanted o (yielded ops a.tmps) = true then Oper.wp P o a w K Q else Z := by
  have hw : Region.wanted o (yielded ops a.tmps) = true := by simp [Region.wanted, hgd]
  rw [if_pos hw]
  exact wp_appG ho he s x hop hs own hB0 hx src conv hq h63 hb h
end
theorem conv_plain {α : Type} {k : Kd α} (hp : Plain k) {w : World} {S : Nat → Prop} {B0 : Nat} {A : Option Addr} {ys : List α} : ∀ rows, Flat k w S rows ys → Flat k w (Led B0 w A) rows ys := fun _ h => flat_plain hp h
theorem conv_led {α : Type} {k : Kd α} {w : World} {S : Nat → Prop} {B0 : Nat} {A : Option Addr} {ys : List α} (h : ∀ b, S b → Led B0 w A b) : ∀ rows, Flat k w S rows ys → Flat k w (Led B0 w A) rows ys := fun _ hf => hf.mono h fun _ _ => rfl
/-- A store into an element. -/
theorem flat_set {α : Type} {k : Kd α} {w : World} {S : Nat → Prop} {j : Nat} (hj : j < k.n) (v : Value) {y : α} : ∀ {rows : List Value} {xs : List α} {i : Nat} {x : α}, Flat k w S rows xs → xs[i]? = some x → (∀ cs, k.rd w S cs x → k.rd w S (cs.set j v) y) → Flat k w S (rows.set (i * k.n + j) v) (xs.set i y)
  | _, [], _, _, _, hx, _ => by simp at hx
  | _, x0 :: xs, 0, x, ⟨cs, rest, h, hr, hf⟩, hx, hy => by
    obtain rfl : x0 = x := by simpa using hx
    subst h
    have hl := k.len hr
    rw [Nat.zero_mul, Nat.zero_add, List.set_append_left _ _ (by omega)]
    exact ⟨_, rest, rfl, hy cs hr, hf⟩
  | _, x0 :: xs, i + 1, x, ⟨cs, rest, h, hr, hf⟩, hx, hy => by
    subst h
    have hl := k.len hr
    have hi : (i + 1) * k.n + j = cs.length + (i * k.n + j) := by rw [Nat.add_mul, Nat.one_mul]; omega
    rw [hi, List.set_append_right _ _ (by omega), Nat.add_sub_cancel_left]
    exact ⟨cs, _, rfl, hr, flat_set hj v hf (by simpa using hx) hy⟩
theorem OwnG.put1 {α : Type} {k : Kd α} {E : TypeId} {B : Nat} {w : World} {p n c i j : Nat} {xs : List α} {x y : α} {v : Value} (h : OwnG k E B w (some ⟨p, 0, none⟩) n c xs) (hx : xs[i]? = some x) (hj : j < k.n)
    (hy : ∀ cs, k.rd w (Led B w (some ⟨p, 0, none⟩)) cs x → k.rd w (Led B w (some ⟨p, 0, none⟩)) (cs.set j v) y) : OwnG k E B (w.setCell ⟨p, i * k.n + j, none⟩ v) (some ⟨p, 0, none⟩) n c (xs.set i y) := by
  obtain ⟨rows, ⟨hr, h0 | ⟨g, cap', cur, hv, hB, hh, hle, hmx, hs, ht⟩⟩, h2, h3⟩ := h
  · cases h0.1
  · simp only [Value.slice.injEq, Option.some.injEq, Addr.mk.injEq, and_true, true_and] at hv
    obtain ⟨rfl, rfl⟩ := hv
    have hled : ∀ b, Led B w (some ⟨p, 0, none⟩) b → Led B (w.setCell ⟨p, i * k.n + j, none⟩ v) (some ⟨p, 0, none⟩) b ∧ (w.setCell ⟨p, i * k.n + j, none⟩ v).heap[b]? = w.heap[b]? := fun b hb => by
      have hne : b ≠ p := fun e => hb.2 (by rw [e]; rfl)
      have he : (w.setCell ⟨p, i * k.n + j, none⟩ v).heap[b]? = w.heap[b]? := Below.heap_setCell _ _ _ _ hne
      exact ⟨⟨hb.1.step (by simp [World.setCell]) he, hb.2⟩, he⟩
    refine ⟨rows.set (i * k.n + j) v, ⟨by rw [List.length_set]; exact hr, .inr ⟨p, c, _, rfl, hB, put_own hh _ v, hle, hmx, by simp [hs], ?_⟩⟩, (flat_set hj v h2 hx hy).mono (fun b hb => (hled b hb).1) (fun b hb => (hled b hb).2), by rw [List.length_set]; exact h3⟩
    rw [← ht, Array.toList_setIfInBounds, List.take_set]
/-- (what a store into a slice's own block leaves) -/
theorem GrowX.put {g : Nat} {a w : World} (h : GrowX g a w) {p o : Nat} (hp : a.heap.size ≤ p) (v : Value) : GrowX g a (w.setCell ⟨p, o, none⟩ v) := h.setOwn hp v
/-- A fresh literal of one element, owned. -/
theorem OwnG.lit {α : Type} {k : Kd α} {E : TypeId} {B : Nat} {w : World} {b m : Nat} {cs : Array Value} {xs : List α} (h : w.heap[b]? = some (.cells cs E (0, 0))) (hB : B ≤ b) (hf : Flat k w (Led B w (some ⟨b, 0, none⟩)) cs.toList xs) (hl : xs.length = m) (hm : m ≤ maxLen) : OwnG k E B w (some ⟨b, 0, none⟩) m m xs := by
  have hn := hf.length
  rw [Array.length_toList, hl] at hn
  exact ⟨cs.toList, ⟨by rw [Array.length_toList, hn], .inr ⟨b, m, cs, rfl, hB, h, Nat.le_refl _, hm, hn, by rw [List.take_of_length_le (by rw [Array.length_toList, hn]; exact Nat.le_refl _)]⟩⟩, hf, hl⟩
theorem flat_one {α : Type} {k : Kd α} {w : World} {S : Nat → Prop} {cs : List Value} {x : α} (hr : k.rd w S cs x) : Flat k w S cs [x] := by
  have : Flat k w S ([] ++ cs) ([] ++ [x]) := Flat.append hr (by trivial)
  simpa using this
theorem isSl_lit {α : Type} {k : Kd α} {w : World} {S : Nat → Prop} {b m : Nat} {cs : Array Value} {E : TypeId} {fr : Nat × Nat} {xs : List α} (h : w.heap[b]? = some (.cells cs E fr)) (hf : Flat k w S cs.toList xs) (hl : xs.length = m) (hm : m ≤ maxLen) (hb : S b) : IsSl k w S (some ⟨b, 0, none⟩) m m xs := by
  refine ⟨hl, Nat.le_refl _, hm, fun _ => ⟨b, 0, rfl, hb, fun i hi => ?_⟩⟩
  obtain ⟨cs', hc, hr⟩ := hf.get (List.getElem?_eq_getElem hi)
  exact ⟨cs', fun j hj => by rw [cell_of h, Nat.zero_add, ← hc j hj, Array.getElem?_toList], hr⟩
theorem flat_two {α : Type} {k : Kd α} {w : World} {S : Nat → Prop} {cs ds : List Value} {x y : α} (hr : k.rd w S cs x) (hs : k.rd w S ds y) : Flat k w S (cs ++ ds) [x, y] := ⟨cs, ds, rfl, hr, flat_one hs⟩
theorem flat_three {α : Type} {k : Kd α} {w : World} {S : Nat → Prop} {cs ds es : List Value} {x y z : α} (hr : k.rd w S cs x) (hs : k.rd w S ds y) (ht : k.rd w S es z) : Flat k w S (cs ++ (ds ++ es)) [x, y, z] := ⟨cs, ds ++ es, rfl, hr, flat_two hs ht⟩
theorem simL_append {cs rest rows' : List Value} (h : SimL (cs ++ rest) rows') : ∃ cs' rest', rows' = cs' ++ rest' ∧ SimL cs cs' ∧ SimL rest rest' := by
  obtain ⟨hl, hv⟩ := h
  rw [List.length_append] at hl
  refine ⟨rows'.take cs.length, rows'.drop cs.length, (List.take_append_drop _ _).symm, ⟨by rw [List.length_take]; omega, fun i v hi => ?_⟩, ⟨by rw [List.length_drop]; omega, fun i v hi => ?_⟩⟩
  · have hlt := (List.getElem?_eq_some_iff.mp hi).1
    obtain ⟨v', h1, h2⟩ := hv i v (by rw [List.getElem?_append_left hlt]; exact hi)
    exact ⟨v', by rw [List.getElem?_take_of_lt hlt]; exact h1, h2⟩
  · obtain ⟨v', h1, h2⟩ := hv (cs.length + i) v (by rw [List.getElem?_append_right (by omega), Nat.add_sub_cancel_left]; exact hi)
    exact ⟨v', by rw [List.getElem?_drop]; exact h1, h2⟩
theorem flat_sims {α : Type} {k : Kd α} {c : α → Nat} (hk : Sims k c) {w w' : World} {S S' : Nat → Prop} (hs : Sim w w') (hS : ∀ b, S b → S' b) : ∀ {rows rows' : List Value} {xs : List α}, Flat k w S rows xs → SimL rows rows' → ∃ ys, Flat k w' S' rows' ys ∧ ys.map c = xs.map c
  | rows, rows', [], h, hl => by
    obtain rfl : rows = [] := h
    obtain rfl := hl.nil
    exact ⟨[], rfl, rfl⟩
  | rows, rows', x :: xs, ⟨cs, rest, h, hr, hf⟩, hl => by
    subst h
    obtain ⟨cs', rest', rfl, h1, h2⟩ := simL_append hl
    obtain ⟨y, hy, hc⟩ := hk w w' S S' cs cs' x hr hs h1 hS
    obtain ⟨ys, hf', hm⟩ := flat_sims hk hs hS hf h2
    exact ⟨y :: ys, ⟨cs', rest', rfl, hy, hf'⟩, by simp [hc, hm]⟩
theorem simS_v {u v : Value} (h : SimS u v) : SimV u v := .inr h
theorem OwnG.simPut {α : Type} {k : Kd α} {cnt : α → Nat} (hk : Sims k cnt) {E : TypeId} {B : Nat} {w : World} {A : Option Addr} {n c : Nat} {xs : List α} (h : OwnG k E B w A n c xs) {q o : Nat} {u v : Value} (hu : w.cell? ⟨q, o, none⟩ = some u) (hs : SimS u v) :
    ∃ ys, OwnG k E B (w.setCell ⟨q, o, none⟩ v) A n c ys ∧ ys.map cnt = xs.map cnt := by
  have hsim : Sim w (w.setCell ⟨q, o, none⟩ v) := Sim.put hu (simS_v hs)
  have hsz : (w.setCell ⟨q, o, none⟩ v).heap.size = w.heap.size := by simp [World.setCell]
  obtain ⟨cc, tt, fr, hq, hco⟩ := cell_inv hu
  have hfz : ∀ b o', (w.setCell ⟨q, o, none⟩ v).frozen? ⟨b, o', none⟩ = w.frozen? ⟨b, o', none⟩ := fun b o' => by
    by_cases hb : b = q
    · subst hb
      simp [World.frozen?, put_own hq, hq]
    · have he : (w.setCell ⟨q, o, none⟩ v).heap[b]? = w.heap[b]? := Below.heap_setCell _ _ _ _ hb
      simp [World.frozen?, he]
  have hled : ∀ b, Led B w A b → Led B (w.setCell ⟨q, o, none⟩ v) A b := fun b hb => ⟨⟨hb.1.1, by rw [hsz]; exact hb.1.2.1, fun o' => (hfz b o').trans (hb.1.2.2 o')⟩, hb.2⟩
  obtain ⟨rows, ⟨hr, h0 | ⟨g, cap', cur, hv, hB, hh, hle, hmx, hz, ht⟩⟩, h2, h3⟩ := h
  · obtain ⟨h0, rfl⟩ := h0
    obtain rfl : rows = [] := List.eq_nil_of_length_eq_zero (by simpa using hr)
    obtain rfl : xs = [] := List.eq_nil_of_length_eq_zero h3
    exact ⟨[], ⟨[], ⟨by simp, .inl ⟨h0, rfl⟩⟩, rfl, rfl⟩, rfl⟩
  · obtain ⟨cur', hh', hz', hc'⟩ : ∃ cur' : Array Value, (w.setCell ⟨q, o, none⟩ v).heap[g]? = some (.cells cur' E (0, 0)) ∧ cur'.size = cur.size ∧ ∀ i x, cur[i]? = some x → ∃ x', cur'[i]? = some x' ∧ SimV x x' := by
      by_cases hg : g = q
      · subst hg
        rw [hh] at hq
        simp only [Option.some.injEq, Obj.cells.injEq] at hq
        obtain ⟨rfl, _⟩ := hq
        refine ⟨_, put_own hh o v, by simp, fun i x hx => ?_⟩
        by_cases hio : o = i
        · subst hio
          obtain rfl : u = x := Option.some.inj (hco.symm.trans hx)
          exact ⟨v, by rw [Array.getElem?_setIfInBounds_self, if_pos (Array.getElem?_eq_some_iff.mp hco).1], simS_v hs⟩
        · exact ⟨x, by rw [Array.getElem?_setIfInBounds_ne hio]; exact hx, SimV.refl x⟩
      · exact ⟨cur, by rw [Below.heap_setCell _ _ _ _ hg]; exact hh, rfl, fun i x hx => ⟨x, hx, SimV.refl x⟩⟩
    have hsl : SimL rows (cur'.toList.take (n * k.n)) := by
      refine ⟨by rw [← ht, List.length_take, List.length_take, Array.length_toList, Array.length_toList, hz'], fun i x hx => ?_⟩
      have hlt := (List.getElem?_eq_some_iff.mp hx).1
      rw [hr] at hlt
      rw [← ht, List.getElem?_take_of_lt hlt, Array.getElem?_toList] at hx
      obtain ⟨x', h1, h2⟩ := hc' i x hx
      exact ⟨x', by rw [List.getElem?_take_of_lt hlt, Array.getElem?_toList]; exact h1, h2⟩
    obtain ⟨ys, hf, hm⟩ := flat_sims hk hsim hled h2 hsl
    exact ⟨ys, ⟨_, ⟨hsl.1.symm.trans hr, .inr ⟨g, cap', cur', hv, hB, hh', hle, hmx, by rw [hz', hz], rfl⟩⟩, hf, by have := congrArg List.length hm; simp at this; omega⟩, hm⟩

theorem simsLen_table : Sims Kd.table (fun t => t.cols.length) := fun w w' S S' cs cs' a hr hs hl hS => by
  obtain ⟨Acols, Lcols, Ccols, Akey, Lkey, Ckey, Auniques, Luniques, Cuniques, Achecks, Lchecks, Cchecks, Afks, Lfks, Cfks, rfl, zname, scols, skey, suniques, schecks, sfks⟩ := hr
  obtain ⟨v0, _, rfl, q0, hl⟩ := hl.cons
  obtain ⟨v1, _, rfl, q1, hl⟩ := hl.cons
  obtain ⟨v2, _, rfl, q2, hl⟩ := hl.cons
  obtain ⟨v3, _, rfl, q3, hl⟩ := hl.cons
  obtain ⟨v4, _, rfl, q4, hl⟩ := hl.cons
  obtain ⟨v5, _, rfl, q5, hl⟩ := hl.cons
  obtain rfl := hl.nil
  obtain ⟨m0, rfl, y0⟩ := q0.str zname
  obtain rfl := q1.slice
  obtain ⟨lcols, tcols, ecols⟩ := scols.sim sims_col hs hS
  obtain rfl := q2.slice
  obtain ⟨lkey, tkey, ekey⟩ := skey.sim sims_int hs hS
  obtain rfl := q3.slice
  obtain ⟨luniques, tuniques, euniques⟩ := suniques.sim sims_unique hs hS
  obtain rfl := q4.slice
  obtain ⟨lchecks, tchecks, echecks⟩ := schecks.sim sims_check hs hS
  obtain rfl := q5.slice
  obtain ⟨lfks, tfks, efks⟩ := sfks.sim sims_fk hs hS
  exact ⟨⟨m0, lcols, lkey, luniques, lchecks, lfks⟩, ⟨Acols, Lcols, Ccols, Akey, Lkey, Ckey, Auniques, Luniques, Cuniques, Achecks, Lchecks, Cchecks, Afks, Lfks, Cfks, rfl, y0, tcols, tkey, tuniques, tchecks, tfks⟩, by have := congrArg List.length ecols; simpa using this⟩
/-- A slice of one's own is handed back, of which P is true; the reader has gone on. -/
def RdSl {α : Type} (k : Kd α) (E : TypeId) (g : Nat) (w : World) (P : List α → Prop) (e : Ending) (w' : World) : Prop :=
  ∃ (A : Option Addr) (n c : Nat) (xs : List α), e = .returned (.slice A n c) ∧ OwnG k E w.heap.size w' A n c xs ∧ P xs ∧ GrowX g w w' ∧ IsRd w' g
theorem pow_one_le (d : Nat) : 1 + 1 ≤ 2 ^ (d + 1 + 1) := by rw [Nat.pow_succ, Nat.pow_succ]; have := Nat.one_le_two_pow (n := d); omega
theorem l2Col_any (n : Int) (w : World) : Calls Tryz.prog 73 #[.int .i64 n] w (Ret w (.agg #[.int .i64 1, .int .i64 n, .int .i64 0, .int .i64 0, .string ⟨#[]⟩])) := by
  go_enter Tryz.func73, Tryz.ntmps73
  go_wp2
  refine bodyPost_ret (v := .agg #[.int .i64 1, .int .i64 n, .int .i64 0, .int .i64 0, .string ⟨#[]⟩]) (by simp [results, Tryz.results73, go_sem]) rfl ⟨rfl, (Grow.refl _).alloc _⟩
theorem l2Const_any (k n : Int) (s : ByteArray) (w : World) : Calls Tryz.prog 74 #[.agg #[.int .i64 k, .int .i64 n, .string s]] w (Ret w (.agg #[.int .i64 2, .int .i64 0, .int .i64 k, .int .i64 n, .string s])) := by
  go_enter Tryz.func74, Tryz.ntmps74
  go_wp2
  refine bodyPost_ret (v := .agg #[.int .i64 2, .int .i64 0, .int .i64 k, .int .i64 n, .string s]) (by simp [results, Tryz.results74, go_sem]) rfl ⟨rfl, (by repeat (with_reducible first | exact Grow.refl _ | assumption | refine Grow.drew ?_ | refine Grow.alloc ?_ _ | refine Grow.set ?_ (by first | exact Nat.le_refl _ | (simp; done) | (simp; omega) | omega) _ | exact And.left (by assumption) | refine Grow.trans ?_ (by assumption)))⟩
theorem cols3 {w : World} {S : Nat → Prop} {b : Nat} {E : TypeId} {fr : Nat × Nat} {n1 s1 n2 s2 n3 s3 : ByteArray} {k1 d1 m1 k2 d2 m2 k3 d3 m3 : Int} {b1 b2 b3 : Bool} (h : w.heap[b]? = some (.cells #[.string n1, .int .i64 k1, .bool b1, .int .i64 d1, .int .i64 m1, .string s1, .string n2, .int .i64 k2, .bool b2, .int .i64 d2, .int .i64 m2, .string s2, .string n3, .int .i64 k3, .bool b3, .int .i64 d3, .int .i64 m3, .string s3] E fr)) (hb : S b) (h1 : n1.size ≤ maxLen ∧ s1.size ≤ maxLen) (h2 : n2.size ≤ maxLen ∧ s2.size ≤ maxLen) (h3 : n3.size ≤ maxLen ∧ s3.size ≤ maxLen) : IsSl Kd.col w S (some ⟨b, 0, none⟩) 3 3 [⟨n1, k1, b1, ⟨d1, m1, s1⟩⟩, ⟨n2, k2, b2, ⟨d2, m2, s2⟩⟩, ⟨n3, k3, b3, ⟨d3, m3, s3⟩⟩] :=
  isSl_lit h (flat_three (cs := [.string n1, .int .i64 k1, .bool b1, .int .i64 d1, .int .i64 m1, .string s1]) (ds := [.string n2, .int .i64 k2, .bool b2, .int .i64 d2, .int .i64 m2, .string s2]) (es := [.string n3, .int .i64 k3, .bool b3, .int .i64 d3, .int .i64 m3, .string s3]) ⟨rfl, h1.1, h1.2⟩ ⟨rfl, h2.1, h2.2⟩ ⟨rfl, h3.1, h3.2⟩) rfl (by decide) hb
theorem cols2 {w : World} {S : Nat → Prop} {b : Nat} {E : TypeId} {fr : Nat × Nat} {n1 s1 n2 s2 : ByteArray} {k1 d1 m1 k2 d2 m2 : Int} {b1 b2 : Bool} (h : w.heap[b]? = some (.cells #[.string n1, .int .i64 k1, .bool b1, .int .i64 d1, .int .i64 m1, .string s1, .string n2, .int .i64 k2, .bool b2, .int .i64 d2, .int .i64 m2, .string s2] E fr)) (hb : S b) (h1 : n1.size ≤ maxLen ∧ s1.size ≤ maxLen) (h2 : n2.size ≤ maxLen ∧ s2.size ≤ maxLen) : IsSl Kd.col w S (some ⟨b, 0, none⟩) 2 2 [⟨n1, k1, b1, ⟨d1, m1, s1⟩⟩, ⟨n2, k2, b2, ⟨d2, m2, s2⟩⟩] :=
  isSl_lit h (flat_two (cs := [.string n1, .int .i64 k1, .bool b1, .int .i64 d1, .int .i64 m1, .string s1]) (ds := [.string n2, .int .i64 k2, .bool b2, .int .i64 d2, .int .i64 m2, .string s2]) ⟨rfl, h1.1, h1.2⟩ ⟨rfl, h2.1, h2.2⟩) rfl (by decide) hb
theorem fk1 {w : World} {S : Nat → Prop} {b : Nat} {E : TypeId} {fr : Nat × Nat} {A : Option Addr} {l c : Nat} {cs : List Int} {n : ByteArray} {a u : Int} {d : Bool} (h : w.heap[b]? = some (.cells #[.slice A l c, .string n, .int .i64 a, .int .i64 u, .bool d] E fr)) (hb : S b) (hn : n.size ≤ maxLen) (hc : IsSl Kd.int w S A l c cs) :
    IsSl Kd.fk w S (some ⟨b, 0, none⟩) 1 1 [⟨cs, n, a, u, d⟩] := isSl_lit h (flat_one ⟨A, l, c, rfl, hn, hc⟩) rfl (by decide) hb
theorem int1 {w : World} {S : Nat → Prop} {b : Nat} {E : TypeId} {fr : Nat × Nat} {n : Int} (h : w.heap[b]? = some (.cells #[.int .i64 n] E fr)) (hb : S b) : IsSl Kd.int w S (some ⟨b, 0, none⟩) 1 1 [n] := isSl_lit h (flat_one rfl) rfl (by decide) hb
theorem unique1 {w : World} {S : Nat → Prop} {b : Nat} {E : TypeId} {fr : Nat × Nat} {A : Option Addr} {l c : Nat} {cs : List Int} (h : w.heap[b]? = some (.cells #[.slice A l c] E fr)) (hb : S b) (hc : IsSl Kd.int w S A l c cs) : IsSl Kd.unique w S (some ⟨b, 0, none⟩) 1 1 [⟨cs⟩] := isSl_lit h (flat_one ⟨A, l, c, rfl, hc⟩) rfl (by decide) hb
theorem check1 {w : World} {S : Nat → Prop} {b : Nat} {E : TypeId} {fr : Nat × Nat} {A : Option Addr} {l c : Nat} {ts : List Tok} (h : w.heap[b]? = some (.cells #[.slice A l c] E fr)) (hb : S b) (hc : IsSl Kd.tok w S A l c ts) : IsSl Kd.check w S (some ⟨b, 0, none⟩) 1 1 [⟨ts⟩] := isSl_lit h (flat_one ⟨A, l, c, rfl, hc⟩) rfl (by decide) hb
theorem Led.of {B : Nat} {w : World} {p b : Nat} {cs : Array Value} {E : TypeId} (h : w.heap[b]? = some (.cells cs E (0, 0))) (hB : B ≤ b) (hp : b ≠ p) : Led B w (some ⟨p, 0, none⟩) b := by
  refine ⟨⟨hB, ?_, (free_of h).2⟩, fun e => hp (by simp only [blockOf, Option.some.injEq] at e; exact e.symm)⟩
  rcases Nat.lt_or_ge b w.heap.size with h' | h'
  · exact h'
  · simp [Array.getElem?_eq_none h'] at h
/-- The table in its box, and the reader. -/
def TabIn (g B P : Nat) (w0 w : World) : Prop := ∃ t : Table, OwnG Kd.table 36 B w (some ⟨P, 0, none⟩) 1 1 [t] ∧ t.cols.length = 3 ∧ GrowX g w0 w ∧ IsRd w g
theorem OwnG.there {α : Type} {k : Kd α} {E : TypeId} {B : Nat} {w : World} {A : Option Addr} {n c : Nat} {xs : List α} (h : OwnG k E B w A n c xs) (hn : 0 < n) : ∃ p, A = some ⟨p, 0, none⟩ := by
  obtain ⟨rows, ⟨hr, h0 | ⟨g, cap', cur, hv, _⟩⟩, h2, h3⟩ := h
  · obtain ⟨_, rfl⟩ := h0; omega
  · simp only [Value.slice.injEq] at hv
    exact ⟨g, hv.1⟩
theorem nilSl {α : Type} {k : Kd α} {w : World} {S : Nat → Prop} : IsSl k w S none 0 0 [] := ⟨rfl, Nat.le_refl _, Nat.zero_le _, fun h => absurd h (Nat.lt_irrefl _)⟩
/-- The cells of the first table. -/
theorem tab_box {E : TypeId} {B P n c : Nat} {w : World} {t : Table} {ts : List Table} (h : OwnG Kd.table E B w (some ⟨P, 0, none⟩) n c (t :: ts)) : ∃ (A0 A1 A2 A3 A4 : Option Addr) (l0 c0 l1 c1 l2 c2 l3 c3 l4 c4 : Nat),
    Kd.table.rd w (Led B w (some ⟨P, 0, none⟩)) [.string t.name, .slice A0 l0 c0, .slice A1 l1 c1, .slice A2 l2 c2, .slice A3 l3 c3, .slice A4 l4 c4] t ∧ B ≤ P ∧ P < w.heap.size ∧ (∀ o, w.frozen? ⟨P, o, none⟩ = false) ∧
    w.cell? ⟨P, 0, none⟩ = some (.string t.name) ∧ w.cell? ⟨P, 1, none⟩ = some (.slice A0 l0 c0) ∧ w.cell? ⟨P, 2, none⟩ = some (.slice A1 l1 c1) ∧ w.cell? ⟨P, 3, none⟩ = some (.slice A2 l2 c2) ∧ w.cell? ⟨P, 4, none⟩ = some (.slice A3 l3 c3) ∧ w.cell? ⟨P, 5, none⟩ = some (.slice A4 l4 c4) := by
  have hb := h.baseB P rfl
  obtain ⟨rows, ⟨hr, h0 | ⟨g, cap', cur, hv, hB, hh, hle, hmx, hz, ht⟩⟩, h2, h3⟩ := h
  · cases h0.1
  · simp only [Value.slice.injEq, Option.some.injEq, Addr.mk.injEq, and_true, true_and] at hv
    obtain ⟨rfl, rfl⟩ := hv
    obtain ⟨cs, rest, rfl, hrd, hrest⟩ := h2
    have hrd' := hrd
    obtain ⟨A0, l0, c0, A1, l1, c1, A2, l2, c2, A3, l3, c3, A4, l4, c4, rfl, -⟩ := hrd
    have hn : 6 ≤ n * Kd.table.n := by
      have h1 : 1 ≤ n := by rw [← h3]; simp
      have : 1 * Kd.table.n ≤ n * Kd.table.n := Nat.mul_le_mul_right _ h1
      exact this
    have hat : ∀ o v, ([.string t.name, .slice A0 l0 c0, .slice A1 l1 c1, .slice A2 l2 c2, .slice A3 l3 c3, .slice A4 l4 c4] : List Value)[o]? = some v → w.cell? ⟨P, o, none⟩ = some v := fun o v hv => by
      have hlt := (List.getElem?_eq_some_iff.mp hv).1
      have hlt6 : o < 6 := hlt
      rw [cell_of hh, ← Array.getElem?_toList, ← List.getElem?_take_of_lt (j := n * Kd.table.n) (by omega), ht, List.getElem?_append_left hlt]
      exact hv
    exact ⟨A0, A1, A2, A3, A4, l0, c0, l1, c1, l2, c2, l3, c3, l4, c4, hrd', hB, hb.2, (free_of hh).2, hat 0 _ rfl, hat 1 _ rfl, hat 2 _ rfl, hat 3 _ rfl, hat 4 _ rfl, hat 5 _ rfl⟩
theorem TabIn.next {g B P : Nat} {w0 w w' : World} (h : TabIn g B P w0 w) (hg : GrowX g w w') (hR : IsRd w' g) (hB : g < B) : TabIn g B P w0 w' := by
  obtain ⟨t, own, ht, hG, _⟩ := h
  exact ⟨t, own.growX hg hB, ht, hG.trans hg, hR⟩
/-- The tables so far, and the reader. -/
def SchIn (g B m : Nat) (w0 : World) (sv : Value) (w : World) : Prop := ∃ (P n c : Nat) (s : List Table), sv = .slice (some ⟨P, 0, none⟩) n c ∧ OwnG Kd.table 36 B w (some ⟨P, 0, none⟩) n c s ∧ 1 ≤ n ∧ n ≤ m ∧ (∀ t ∈ s, 2 ≤ t.cols.length ∧ t.cols.length ≤ 3) ∧ GrowX g w0 w ∧ IsRd w g
/-- A table that refers to one, made in new blocks: the literal that is appended. -/
theorem tab_src {B S : Nat} {v : World} {bc bk bf : Nat} {nm n2 fn : ByteArray} {b2 d : Bool} {a u : Int} {E0 E1 E2 E3 E4 : TypeId}
    (f0 : v.heap[bc]? = some (.cells #[.string ⟨#[107]⟩, .int .i64 1, .bool true, .int .i64 0, .int .i64 0, .string ⟨#[]⟩, .string n2, .int .i64 1, .bool b2, .int .i64 0, .int .i64 0, .string ⟨#[]⟩] E0 (0, 0)))
    (f1 : v.heap[bk]? = some (.cells #[.int .i64 0] E1 (0, 0))) (f2 : v.heap[bf]? = some (.cells #[.int .i64 1] E1 (0, 0))) (h0 : B ≤ bc ∧ bc ≠ S) (h1 : B ≤ bk ∧ bk ≠ S) (h2 : B ≤ bf ∧ bf ≠ S) (hS : S < v.heap.size) (hB : B ≤ v.heap.size)
    (z0 : nm.size ≤ maxLen) (z1 : n2.size ≤ maxLen) (z2 : fn.size ≤ maxLen) :
    IsSl Kd.table (((v.alloc (.cells #[.slice (some ⟨bf, 0, none⟩) 1 1, .string fn, .int .i64 a, .int .i64 u, .bool d] E2)).alloc (.cells #[.string nm, .slice (some ⟨bc, 0, none⟩) 2 2, .slice (some ⟨bk, 0, none⟩) 1 1, .slice none 0 0, .slice none 0 0, .slice (some ⟨v.heap.size, 0, none⟩) 1 1] E3)).alloc
        (.cells #[.string nm, .slice (some ⟨bc, 0, none⟩) 2 2, .slice (some ⟨bk, 0, none⟩) 1 1, .slice none 0 0, .slice none 0 0, .slice (some ⟨v.heap.size, 0, none⟩) 1 1] E4))
      (Led B (((v.alloc (.cells #[.slice (some ⟨bf, 0, none⟩) 1 1, .string fn, .int .i64 a, .int .i64 u, .bool d] E2)).alloc (.cells #[.string nm, .slice (some ⟨bc, 0, none⟩) 2 2, .slice (some ⟨bk, 0, none⟩) 1 1, .slice none 0 0, .slice none 0 0, .slice (some ⟨v.heap.size, 0, none⟩) 1 1] E3)).alloc
        (.cells #[.string nm, .slice (some ⟨bc, 0, none⟩) 2 2, .slice (some ⟨bk, 0, none⟩) 1 1, .slice none 0 0, .slice none 0 0, .slice (some ⟨v.heap.size, 0, none⟩) 1 1] E4)) (some ⟨S, 0, none⟩))
      (some ⟨v.heap.size + 1 + 1, 0, none⟩) 1 1 [⟨nm, [⟨⟨#[107]⟩, 1, true, ⟨0, 0, ⟨#[]⟩⟩⟩, ⟨n2, 1, b2, ⟨0, 0, ⟨#[]⟩⟩⟩], [0], [], [], [⟨[1], fn, a, u, d⟩]⟩] := by
  generalize hV : World.alloc (World.alloc (World.alloc v _) _) _ = V
  obtain ⟨gV, s0, s1, s2, q0, q1, q2⟩ := boxed3 hV
  clear hV
  have lt : ∀ {b : Nat} {cs : Array Value} {E : TypeId}, v.heap[b]? = some (.cells cs E (0, 0)) → b < v.heap.size := fun {b cs E} h => by
    rcases Nat.lt_or_ge b v.heap.size with h' | h'
    · exact h'
    · simp [Array.getElem?_eq_none h'] at h
  have p0 := (gV.block (lt f0)).trans f0
  have p1 := (gV.block (lt f1)).trans f1
  have p2 := (gV.block (lt f2)).trans f2
  exact isSl_lit q2 (flat_one ⟨_, _, _, _, _, _, _, _, _, _, _, _, _, _, _, rfl, z0, cols2 p0 (Led.of p0 h0.1 h0.2) ⟨(by decide : 1 ≤ maxLen), Nat.zero_le _⟩ ⟨z1, Nat.zero_le _⟩, int1 p1 (Led.of p1 h1.1 h1.2), nilSl, nilSl, fk1 q0 (Led.of q0 hB (by omega)) z2 (int1 p2 (Led.of p2 h2.1 h2.2))⟩) rfl (by decide) (Led.of q2 (by omega) (by omega))
theorem SchIn.next {g B m : Nat} {w0 w w' : World} {sv : Value} (h : SchIn g B m w0 sv w) (hg : GrowX g w w') (hR : IsRd w' g) (hB : g < B) : SchIn g B (m + 1) w0 sv w' := by
  obtain ⟨P, n, c, s, hsv, own, h1, hn, ht, hG, _⟩ := h
  exact ⟨P, n, c, s, hsv, own.growX hg hB, h1, by omega, ht, hG.trans hg, hR⟩
theorem put_alloc2 {w : World} {P o : Nat} {v : Value} {a b : Obj} (h : P < w.heap.size) : ((w.setCell ⟨P, o, none⟩ v).alloc a).alloc b = ((w.alloc a).alloc b).setCell ⟨P, o, none⟩ v := by
  rw [World.setCell_alloc_past b P o v (Nat.lt_of_lt_of_le h ((Grow.refl w).alloc a).size), World.setCell_alloc_past a P o v h]
theorem action_any (g : Nat) (w : World) (h : IsRd w g) : Calls Tryz.prog 75 #[.pointer (some ⟨g, 0, none⟩)] w (RdInt g w fun _ => True) := by
  go_enter Tryz.func75, Tryz.ntmps75
  go_wp2_with fail
  refine (below_any g 3 _ h (by decide)).mono ?_
  rintro e w1 ⟨x, rfl, _, hG, hR⟩
  go_wp2
  go_ret
  exact ⟨x, rfl, trivial, hG, hR⟩
theorem ones_table : Ones Kd.table := fun w S cs a h u hu => by
  obtain ⟨_, _, _, _, _, _, _, _, _, _, _, _, _, _, _, rfl, _⟩ := h
  simp only [List.mem_cons, List.not_mem_nil, or_false] at hu
  rcases hu with rfl | rfl | rfl | rfl | rfl | rfl <;> rfl
theorem elem_table : ElemOk Tryz.prog 24 36 6 136 := elemOk_of Tryz.underlying24 info_table rfl (by decide)
def SchemaDrawn (g : Nat) (w : World) (e : Ending) (w' : World) : Prop := ∃ (A : Option Addr) (n c : Nat) (s : List Table), e = .returned (.slice A n c) ∧ OwnG Kd.table 36 w.heap.size w' A n c s ∧ 1 ≤ n ∧ n ≤ 3 ∧
  (∀ t ∈ s, 2 ≤ t.cols.length ∧ t.cols.length ≤ 3) ∧ GrowX g w w' ∧ IsRd w' g
set_option maxRecDepth 20000 in
set_option maxHeartbeats 8000000 in
theorem schema_any (g : Nat) (w : World) (h : IsRd w g) : Calls Tryz.prog 31 #[.pointer (some ⟨g, 0, none⟩)] w (SchemaDrawn g w) := by
  have hgl := h.lt
  go_enter Tryz.func31, Tryz.ntmps31
  go_wp2_with fail
  refine (l1Int_any _ _).mono ?_
  rintro e w1 ⟨rfl, g1⟩
  go_wp2_with fail
  generalize hW : World.alloc (World.alloc (World.alloc w1 _) _) _ = W
  obtain ⟨gW, s0, s1, s2, b0, b1, b2⟩ := boxed3 hW
  clear hW
  have hw1 : w.heap.size ≤ w1.heap.size := g1.size
  have own0 : OwnG Kd.table 36 w.heap.size W (some ⟨w1.heap.size + 1 + 1, 0, none⟩) 1 1 [⟨⟨#[112]⟩, [⟨⟨#[107]⟩, 1, true, ⟨0, 0, ⟨#[]⟩⟩⟩, ⟨⟨#[116]⟩, 2, false, ⟨0, 0, ⟨#[]⟩⟩⟩, ⟨⟨#[110]⟩, 1, false, ⟨1, 1, ⟨#[]⟩⟩⟩], [0], [], [], []⟩] :=
    OwnG.lit b2 (by omega) (flat_one ⟨_, _, _, _, _, _, _, _, _, _, _, _, _, _, _, rfl, (by decide : 1 ≤ maxLen), cols3 b0 (Led.of b0 hw1 (by omega)) (by decide) (by decide) (by decide), int1 b1 (Led.of b1 (by omega) (by omega)), nilSl, nilSl, nilSl⟩) rfl (by decide)
  have T0 : TabIn g w.heap.size (w1.heap.size + 1 + 1) w W := ⟨_, own0, rfl, GrowX.of (g1.trans gW), h.of_grow (g1.trans gW)⟩
  clear own0 b0 b1 b2
  obtain ⟨P, hP⟩ : ∃ P, P = w1.heap.size + 1 + 1 := ⟨_, rfl⟩
  rw [← hP] at T0 ⊢
  have hwP : w.heap.size ≤ P := by omega
  have hgP : g < P := by omega
  have hPW : P < W.heap.size := by omega
  clear hP
  refine (once_any g 2 _ (h.of_grow (g1.trans gW)) (by decide) (by decide)).mono ?_
  rintro e w2 ⟨x, rfl, hG2, hR2⟩
  go_upto_if 15 with (fail)
  go_cut [] (fun wx => TabIn g w.heap.size P w wx)
  case first =>
    cases x with
    | false =>
      go_wp2
      go_meet
      exact T0.next hG2 hR2 hgl
    | true =>
      have T2 := T0.next hG2 hR2 hgl
      obtain ⟨t, own, htl, hGt, hRt⟩ := T2
      obtain ⟨A0, A1, A2, A3, A4, l0, c0, l1, c1, l2, c2, l3, c3, l4, c4, hrd, hBP, hPs, fP, d0, d1, d2, d3, d4, d5⟩ := tab_box own
      have OWN := Lib.hid own
      clear own d0 d1 d2 d4 d5 T0
      go_wp2
      go_meet
      rw [put_alloc2 hPs]
      generalize hV : World.alloc (World.alloc w2 _) _ = V
      obtain ⟨gV, v0, v1, e0, e1⟩ := boxedB2 hV
      clear hV
      have own2 := OWN.out.grow gV
      have hB2 : w.heap.size ≤ w2.heap.size := hGt.size
      have hne : ∀ q, q = w2.heap.size ∨ q = w2.heap.size + 1 → q ≠ P := by intro q hq; omega
      refine ⟨{ t with uniques := [⟨[2]⟩] }, own2.put1 (i := 0) (j := 3) rfl (by decide) (fun cs hr => ?_), htl, (hGt.trans (GrowX.of gV)).put (by omega) _, (hRt.of_grow gV).set hgP _⟩
      obtain ⟨_, _, _, _, _, _, _, _, _, _, _, _, _, _, _, rfl, hnm, q1, q2, q3, q4, q5⟩ := hr
      exact ⟨_, _, _, _, _, _, _, _, _, _, _, _, _, _, _, rfl, hnm, q1, q2, unique1 e1 (Led.of e1 (by omega) (hne _ (.inr rfl))) (int1 e0 (Led.of e0 (by omega) (hne _ (.inl rfl)))), q4, q5⟩
  case rest =>
    have T0 := hcut
    clear hcut
    obtain ⟨wa, hwa⟩ : ∃ v, v = wc := ⟨_, rfl⟩
    rw [← hwa] at T0 ⊢
    clear hwa
    have hRa := T0.choose_spec.2.2.2
    go_wp2_with fail
    refine (once_any g 2 _ hRa (by decide) (by decide)).mono ?_
    rintro e w3 ⟨x3, rfl, hG3, hR3⟩
    replace T0 := T0.next hG3 hR3 hgl
    go_upto_if 21 with (fail)
    go_cut [] (fun wx => TabIn g w.heap.size P w wx)
    case first =>
      cases x3 with
      | false =>
        go_wp2
        go_meet
        exact T0
      | true =>
        go_wp2_with fail
        refine (l2Col_any _ _).mono ?_
        rintro e w4 ⟨rfl, g4⟩
        go_wp2_with fail
        refine (l1Int_any _ _).mono ?_
        rintro e w5 ⟨rfl, g5⟩
        go_wp2_with fail
        refine (l2Const_any _ _ _ _).mono ?_
        rintro e w6 ⟨rfl, g6⟩
        obtain ⟨t, own, htl, hGt, hRt⟩ := T0.next (GrowX.of (g4.trans (g5.trans g6))) (hR3.of_grow (g4.trans (g5.trans g6))) hgl
        obtain ⟨A0, A1, A2, A3, A4, l0, c0, l1, c1, l2, c2, l3, c3, l4, c4, hrd, hBP, hPs, fP, d0, d1, d2, d3, d4, d5⟩ := tab_box own
        have OWN := Lib.hid own
        clear own d0 d1 d2 d3 d5 T0
        go_wp2
        go_meet
        rw [put_alloc2 hPs]
        generalize hV : World.alloc (World.alloc w6 _) _ = V
        obtain ⟨gV, v0, v1, e0, e1⟩ := boxedB2 hV
        clear hV
        have own2 := OWN.out.grow gV
        have hB2 : w.heap.size ≤ w6.heap.size := hGt.size
        have hne : ∀ q, q = w6.heap.size ∨ q = w6.heap.size + 1 → q ≠ P := by intro q hq; omega
        refine ⟨{ t with checks := [⟨[⟨1, 0, ⟨0, 0, ⟨#[]⟩⟩⟩, ⟨2, 0, ⟨1, 4, ⟨#[]⟩⟩⟩, ⟨4, 0, ⟨0, 0, ⟨#[]⟩⟩⟩]⟩] }, own2.put1 (i := 0) (j := 4) rfl (by decide) (fun cs hr => ?_), htl, (hGt.trans (GrowX.of gV)).put (by omega) _, (hRt.of_grow gV).set hgP _⟩
        obtain ⟨_, _, _, _, _, _, _, _, _, _, _, _, _, _, _, rfl, hnm, q1, q2, q3, q4, q5⟩ := hr
        exact ⟨_, _, _, _, _, _, _, _, _, _, _, _, _, _, _, rfl, hnm, q1, q2, q3, check1 e1 (Led.of e1 (by omega) (hne _ (.inr rfl))) (isSl_lit e0 (flat_three (cs := [.int .i64 1, .int .i64 0, .int .i64 0, .int .i64 0, .string ⟨#[]⟩]) (ds := [.int .i64 2, .int .i64 0, .int .i64 1, .int .i64 4, .string ⟨#[]⟩]) (es := [.int .i64 4, .int .i64 0, .int .i64 0, .int .i64 0, .string ⟨#[]⟩]) ⟨rfl, Nat.zero_le _⟩ ⟨rfl, Nat.zero_le _⟩ ⟨rfl, Nat.zero_le _⟩) rfl (by decide) (Led.of e0 (by omega) (hne _ (.inl rfl)))), q5⟩
    case rest =>
      have T0 := hcut
      clear hcut
      obtain ⟨wb, hwb⟩ : ∃ v, v = wc := ⟨_, rfl⟩
      rw [← hwb] at T0 ⊢
      clear hwb
      obtain ⟨t, own, htl, hGt, hRt⟩ := T0
      obtain ⟨A0, A1, A2, A3, A4, l0, c0, l1, c1, l2, c2, l3, c3, l4, c4, hrd, hBP, hPs, fP, d0, d1, d2, d3, d4, d5⟩ := tab_box own
      have HRD := Lib.hid hrd
      clear own hrd
      go_wp2_with fail
      generalize hV : World.alloc wb _ = V
      obtain ⟨gV, v0, e0⟩ := boxedB hV
      clear hV d0 d1 d2 d3 d4 d5 fP
      have hBb : w.heap.size ≤ wb.heap.size := hGt.size
      have own3 : OwnG Kd.table 36 w.heap.size V (some ⟨wb.heap.size, 0, none⟩) 1 1 [t] :=
        OwnG.lit e0 hBb (flat_one (Kd.table.mono HRD.out (fun b hb => ⟨hb.1.grow gV, fun e => by simp only [blockOf, Option.some.injEq] at e; have := hb.1.2.1; omega⟩) (fun b hb => gV.block hb.1.2.1))) rfl (by decide)
      have hGV : GrowX g w V := hGt.trans (GrowX.of gV)
      have hbnd : ∀ u ∈ [t], 2 ≤ u.cols.length ∧ u.cols.length ≤ 3 := fun u hu => by simp only [List.mem_singleton] at hu; subst hu; omega
      clear e0
      refine (once_any g 4 _ (hRt.of_grow gV) (by decide) (by decide)).mono ?_
      rintro e w7 ⟨x7, rfl, hG7, hR7⟩
      have own7 := own3.growX hG7 hgl
      have hGW7 := hGV.trans hG7
      go_upto_if 34 with (fail)
      go_cut [4] (fun sv wx => SchIn g w.heap.size 2 w sv wx)
      case first =>
        cases x7 with
        | true =>
          go_wp2
          go_meet
          exact ⟨_, 1, 1, [t], rfl, own7, by omega, by omega, hbnd, hGW7, hR7⟩
        | false =>
          go_wp2_with fail
          refine (once_any g 4 _ hR7 (by decide) (by decide)).mono ?_
          rintro e w8 ⟨x8, rfl, hG8, hR8⟩
          go_wp2_with fail
          generalize hV3 : World.alloc (World.alloc (World.alloc w8 _) _) _ = V3
          obtain ⟨gV3, s30, s31, s32, k0, k1, k2⟩ := boxed3 hV3
          clear hV3
          refine (action_any g _ (hR8.of_grow gV3)).mono ?_
          rintro e w9 ⟨a9, rfl, _, hG9, hR9⟩
          go_wp2_with fail
          refine (action_any g _ hR9).mono ?_
          rintro e w10 ⟨a10, rfl, _, hG10, hR10⟩
          go_wp2_with fail
          refine (once_any g 4 _ hR10 (by decide) (by decide)).mono ?_
          rintro e w11 ⟨x11, rfl, hG11, hR11⟩
          have G911 : GrowX g V3 w11 := hG9.trans (hG10.trans hG11)
          have Gall : GrowX g w7 w11 := hG8.trans ((GrowX.of gV3).trans G911)
          have ownZ := own7.growX Gall hgl
          have hSz : wb.heap.size < w11.heap.size := (ownZ.baseB _ rfl).2
          have hS0 : wb.heap.size < w7.heap.size := (own7.baseB _ rfl).2
          have hz8 := hG8.size
          have hwz : w.heap.size ≤ w7.heap.size := (hGW7).size
          have hg8 : g < w8.heap.size := hR8.lt
          have f0 := (G911.block _ s30 (by omega)).trans k0
          have f1 := (G911.block _ s31 (by omega)).trans k1
          have f2 := (G911.block _ s32 (by omega)).trans k2
          have hzz := Gall.size
          have SRC := Lib.hid (tab_src (B := w.heap.size) (S := wb.heap.size) (nm := ⟨#[99]⟩) (fn := ⟨#[112]⟩) (a := a9) (u := a10) (d := x11) (E2 := 54) (E3 := 36) (E4 := 36) f0 f1 f2 (by omega) (by omega) (by omega) hSz (by omega) (by decide) (by decide) (by decide))
          clear k0 k1 k2 f0 f1 f2
          go_wp2_with (at_builtin; refine wpList_appG ones_table elem_table rfl (.tmp 51) (.tmp 53) (by rfl) (by rfl) (ownZ.grow ((((Grow.refl _).alloc _).alloc _).alloc _)) (Nat.le_trans (by omega) ((((Grow.refl w11).alloc _).alloc _).alloc _).size) (by rfl) SRC.out (fun _ h => h) (q := 1 + 1) rfl (by unfold maxLen; omega) (by omega) (fun A12 c12 w12 ap12 => ?_))
          go_meet
          have hGw : GrowX g w w11 := (hGW7).trans Gall
          obtain ⟨P12, hP12⟩ : ∃ p, A12 = some ⟨p, 0, none⟩ := ap12.own.there (by omega)
          subst hP12
          exact ⟨P12, 1 + 1, c12, _, rfl, ap12.own, by omega, by omega, fun t ht => by
            rcases List.mem_append.mp ht with ht | ht
            · exact hbnd t ht
            · simp only [List.mem_singleton] at ht; subst ht; exact ⟨Nat.le_refl 2, Nat.le_succ 2⟩, ap12.growX (((hGw.alloc _).alloc _).alloc _) (Nat.le_refl _), ap12.rd (hR11.of_grow ((((Grow.refl _).alloc _).alloc _).alloc _)) hgl⟩
      case rest =>
        have T0 := hcut
        clear hcut
        obtain ⟨wd, hwd⟩ : ∃ v, v = wc := ⟨_, rfl⟩
        rw [← hwd] at T0 ⊢
        clear hwd hbnd
        obtain ⟨PS, n1, c1', s1', rfl, ownS, hn1, hn2, hbnd, hGS, hRS⟩ := T0
        go_wp2_with fail
        refine (once_any g 3 _ hRS (by decide) (by decide)).mono ?_
        rintro e w13 ⟨x13, rfl, hG13, hR13⟩
        have own13 := ownS.growX hG13 hgl
        have hGW13 := hGS.trans hG13
        go_upto_if 56 with (fail)
        go_cut [4] (fun sv wx => SchIn g w.heap.size 3 w sv wx)
        case first =>
          cases x13 with
          | false =>
            go_wp2
            go_meet
            exact ⟨PS, n1, c1', s1', rfl, own13, by omega, by omega, hbnd, hGW13, hR13⟩
          | true =>
            go_wp2_with fail
            generalize hV3 : World.alloc (World.alloc (World.alloc w13 _) _) _ = V3
            obtain ⟨gV3, s30, s31, s32, k0, k1, k2⟩ := boxed3 hV3
            clear hV3
            refine (action_any g _ (hR13.of_grow gV3)).mono ?_
            rintro e w9 ⟨a9, rfl, _, hG9, hR9⟩
            go_wp2_with fail
            refine (action_any g _ hR9).mono ?_
            rintro e w10 ⟨a10, rfl, _, hG10, hR10⟩
            have G911 : GrowX g V3 w10 := hG9.trans hG10
            have Gall : GrowX g w13 w10 := (GrowX.of gV3).trans G911
            have ownZ := own13.growX Gall hgl
            have hSz : PS < w10.heap.size := (ownZ.baseB _ rfl).2
            have hS0 : PS < w13.heap.size := (own13.baseB _ rfl).2
            have hwz : w.heap.size ≤ w13.heap.size := (hGW13).size
            have hg8 : g < w13.heap.size := hR13.lt
            have f0 := (G911.block _ s30 (by omega)).trans k0
            have f1 := (G911.block _ s31 (by omega)).trans k1
            have f2 := (G911.block _ s32 (by omega)).trans k2
            have hzz := Gall.size
            have SRC := Lib.hid (tab_src (B := w.heap.size) (S := PS) (nm := ⟨#[116, 114, 101, 101]⟩) (fn := ⟨#[116, 114, 101, 101]⟩) (a := a9) (u := a10) (d := false) (E2 := 54) (E3 := 36) (E4 := 36) f0 f1 f2 (by omega) (by omega) (by omega) hSz (by omega) (by decide) (by decide) (by decide))
            clear k0 k1 k2 f0 f1 f2
            go_wp2_with (at_builtin; refine wpList_appG ones_table elem_table rfl (.tmp 69) (.tmp 71) (by rfl) (by rfl) (ownZ.grow ((((Grow.refl _).alloc _).alloc _).alloc _)) (Nat.le_trans (by omega) ((((Grow.refl w10).alloc _).alloc _).alloc _).size) (by rfl) SRC.out (fun _ h => h) (q := n1 + 1) rfl (by unfold maxLen; omega) (by omega) (fun A12 c12 w12 ap12 => ?_))
            go_meet
            have hGw : GrowX g w w10 := (hGW13).trans Gall
            obtain ⟨P12, hP12⟩ : ∃ p, A12 = some ⟨p, 0, none⟩ := ap12.own.there (by omega)
            subst hP12
            exact ⟨P12, n1 + 1, c12, _, rfl, ap12.own, by omega, by omega, fun t ht => by
              rcases List.mem_append.mp ht with ht | ht
              · exact hbnd t ht
              · simp only [List.mem_singleton] at ht; subst ht; exact ⟨Nat.le_refl 2, Nat.le_succ 2⟩, ap12.growX (((hGw.alloc _).alloc _).alloc _) (Nat.le_refl _), ap12.rd (hR10.of_grow ((((Grow.refl _).alloc _).alloc _).alloc _)) hgl⟩
        case rest =>
          have T0 := hcut
          clear hcut
          obtain ⟨we, hwe⟩ : ∃ v, v = wc := ⟨_, rfl⟩
          rw [← hwe] at T0 ⊢
          clear hwe hbnd
          obtain ⟨PT, n2, c2', s2', rfl, ownT, hm1, hm2, hbnd, hGT, hRT⟩ := T0
          go_wp2_with fail
          refine (below_any g 40 _ hRT (by decide)).mono ?_
          rintro e wf ⟨y, rfl, hy, hGf, hRf⟩
          have ownF := ownT.growX hGf hgl
          have hGF := hGT.trans hGf
          have hlen := ownF.len
          obtain ⟨t0, ts, rfl⟩ : ∃ t0 ts, s2' = t0 :: ts := by
            cases s2' with
            | nil => simp at hlen; omega
            | cons a l => exact ⟨a, l, rfl⟩
          have hb0 := hbnd t0 (List.mem_cons_self ..)
          obtain ⟨B0, B1, B2, B3, B4, p0, q0, p1, q1, p2, q2, p3, q3, p4, q4, hrd, hBP', hPs', fP', d0, d1, d2, d3, d4, d5⟩ := tab_box ownF
          have OWN := Lib.hid ownF
          have HRD := Lib.hid hrd
          have HBN := Lib.hid hbnd
          have hn2 : (0 : Int) < (n2 : Int) := by omega
          have hgP' : g < PT := by omega
          have hcase : y = 37 ∨ y = 38 ∨ y = 39 ∨ ((y == 37) = false ∧ (y == 38) = false ∧ (y == 39) = false) := by simp only [beq_eq_false_iff_ne]; omega
          clear ownT ownF hrd hbnd
          rcases hcase with rfl | rfl | rfl | ⟨y7, y8, y9⟩
          · go_wp2
            go_ret
            refine ⟨_, n2, c2', _, rfl, OWN.out.put1 (i := 0) (j := 2) (y := { t0 with key := [] }) rfl (by decide) (fun cs hr => ?_), hm1, hm2, fun u hu => ?_, hGF.put hBP' _, hRf.set hgP' _⟩
            · obtain ⟨_, _, _, _, _, _, _, _, _, _, _, _, _, _, _, rfl, hnm, r1, r2, r3, r4, r5⟩ := hr
              exact ⟨_, _, _, _, _, _, _, _, _, _, _, _, _, _, _, rfl, hnm, r1, nilSl, r3, r4, r5⟩
            · rcases List.mem_or_eq_of_mem_set hu with hu | rfl
              · exact HBN.out u hu
              · exact hb0
          · go_wp2
            go_ret
            refine ⟨_, n2, c2', _, rfl, OWN.out.put1 (i := 0) (j := 0) (y := { t0 with name := ⟨#[99]⟩ }) rfl (by decide) (fun cs hr => ?_), hm1, hm2, fun u hu => ?_, hGF.put hBP' _, hRf.set hgP' _⟩
            · obtain ⟨_, _, _, _, _, _, _, _, _, _, _, _, _, _, _, rfl, hnm, r1, r2, r3, r4, r5⟩ := hr
              exact ⟨_, _, _, _, _, _, _, _, _, _, _, _, _, _, _, rfl, (by decide : 1 ≤ maxLen), r1, r2, r3, r4, r5⟩
            · rcases List.mem_or_eq_of_mem_set hu with hu | rfl
              · exact HBN.out u hu
              · exact hb0
          · obtain ⟨_, _, _, _, _, _, _, _, _, _, _, _, _, _, _, he, _, scols, _⟩ := HRD.out
            simp only [List.cons.injEq, Value.slice.injEq, and_true, true_and] at he
            obtain ⟨⟨rfl, rfl, rfl⟩, _⟩ := he
            have hp0 : p0 = t0.cols.length := scols.1.symm
            obtain ⟨bC, oC, xC, rfl, hxC, hSC, hbC, _, _, e0, e1, _, _, _, _, _⟩ := col_at scols (i := 0) (by omega)
            simp only [Nat.zero_mul, Nat.add_zero] at e1
            have hfC := hSC.1.2.2
            have hBC := hSC.1.1
            have hgC : g < bC := by omega
            have hp0' : (0 : Int) < (p0 : Int) := by omega
            have E1 := Lib.hid e1
            clear hxC e0 e1 d0 d2 d3 d4 d5 scols hSC
            go_wp2_with fail
            go_region_with ((go_at_call 77; refine (off_any g _ _ _ (hRf.of_grow (Grow.refl _).drew) (by decide) (by decide)).mono ?_; rintro e wg ⟨m, rfl, _, hGg, hRg⟩; have Gf' : GrowX g wf wg := ((GrowX.refl g wf).drew).trans hGg; have x1 := (Gf'.cell hPs' (by omega)).trans d1; have x2 := (Gf'.cell hbC (by omega)).trans E1.out; have x3 := fun o => (frozen_of (Gf'.block bC hbC (by omega)) o).trans (hfC o); have x4 := Nat.lt_of_lt_of_le hbC Gf'.size))
            all_goals
              go_wp2
              go_ret
              obtain ⟨ys, ownY, hmap⟩ := (OWN.out.growX Gf' hgl).simPut simsLen_table (q := bC) (o := oC + 1) (v := .int .i64 m) x2 (SimS.int _ _ _)
              exact ⟨_, n2, c2', ys, rfl, ownY, hm1, hm2, fun u hu => by
                obtain ⟨i, hi, rfl⟩ := List.getElem_of_mem hu
                obtain ⟨x, hx, hc⟩ := map_at hmap (List.getElem?_eq_getElem hi)
                rw [← hc]
                exact HBN.out x (List.mem_of_getElem? hx), (hGF.trans Gf').put hBC _, hRg.set hgC _⟩
          · go_wp2
            go_ret
            exact ⟨_, n2, c2', _, rfl, OWN.out, hm1, hm2, HBN.out, hGF, hRf⟩
/-- A store elsewhere leaves a slice of one's own, whose elements lead nowhere. -/
theorem OwnG.other {α : Type} {k : Kd α} (hp : Plain k) {E : TypeId} {B : Nat} {w : World} {A : Option Addr} {n c : Nat} {xs : List α} (h : OwnG k E B w A n c xs) {q o : Nat} (hq : blockOf A ≠ some q) (v : Value) : OwnG k E B (w.setCell ⟨q, o, none⟩ v) A n c xs := by
  obtain ⟨rows, ⟨hr, h0 | ⟨g, cap', cur, hv, hB, hh, hrest⟩⟩, h2, h3⟩ := h
  · exact ⟨rows, ⟨hr, .inl h0⟩, flat_plain hp h2, h3⟩
  · refine ⟨rows, ⟨hr, .inr ⟨g, cap', cur, hv, hB, ?_, hrest⟩⟩, flat_plain hp h2, h3⟩
    simp only [Value.slice.injEq] at hv
    rw [Below.heap_setCell _ _ _ _ (fun e => hq (by rw [hv.1, e]; rfl))]
    exact hh
/-- Between the steps of a round: the value in its box, the row so far, the reader. -/
def FitIn (g V0 k c : Nat) (P : Option Addr) (xs : List Val) (W w : World) : Prop := ∃ v : Val, w.heap[V0]? = some (.cells #[.int .i64 v.kind, .int .i64 v.n, .string v.s] 50 (0, 0)) ∧ v.s.size ≤ 12 ∧
  OwnG Kd.val 50 W.heap.size w P k c xs ∧ GrowX g W w ∧ IsRd w g
theorem FitIn.next {g V0 k c : Nat} {P : Option Addr} {xs : List Val} {W w w' : World} (h : FitIn g V0 k c P xs W w) (hg : GrowX g w w') (hR : IsRd w' g) (hgW : g < W.heap.size) (hW : W.heap.size ≤ V0) : FitIn g V0 k c P xs W w' := by
  obtain ⟨v, hb, hs, own, hG, _⟩ := h
  have hlt : V0 < w.heap.size := by
    rcases Nat.lt_or_ge V0 w.heap.size with h' | h'
    · exact h'
    · simp [Array.getElem?_eq_none h'] at hb
  exact ⟨v, (hg.block _ hlt (by omega)).trans hb, hs, own.growX hg hgW, hG.trans hg, hR⟩
theorem FitIn.put {g V0 k c : Nat} {P : Option Addr} {xs : List Val} {W w : World} (h : FitIn g V0 k c P xs W w) (hgW : g < W.heap.size) (hW : W.heap.size ≤ V0) (hP : blockOf P ≠ some V0) (v : Val) (hv : v.s.size ≤ 12) :
    FitIn g V0 k c P xs W (((w.setCell ⟨V0, 0, none⟩ (.int .i64 v.kind)).setCell ⟨V0, 1, none⟩ (.int .i64 v.n)).setCell ⟨V0, 2, none⟩ (.string v.s)) := by
  obtain ⟨v', hb, hs, own, hG, hR⟩ := h
  have hgV : g < V0 := by omega
  exact ⟨v, setL_own hb 0 [.int .i64 v.kind, .int .i64 v.n, .string v.s], hv, ((own.other plain_val hP _).other plain_val hP _).other plain_val hP _, ((hG.put hW _).put hW _).put hW _, ((hR.set hgV _).set hgV _).set hgV _⟩
theorem fit_box {w : World} {V0 : Nat} {v : Val} (h : w.heap[V0]? = some (.cells #[.int .i64 v.kind, .int .i64 v.n, .string v.s] 50 (0, 0))) :
    V0 < w.heap.size ∧ (∀ o, w.frozen? ⟨V0, o, none⟩ = false) ∧ w.cell? ⟨V0, 0, none⟩ = some (.int .i64 v.kind) ∧ w.cell? ⟨V0, 1, none⟩ = some (.int .i64 v.n) ∧ w.cell? ⟨V0, 2, none⟩ = some (.string v.s) := by
  refine ⟨?_, (free_of h).2, (free_of h).1 0, (free_of h).1 1, (free_of h).1 2⟩
  rcases Nat.lt_or_ge V0 w.heap.size with h' | h'
  · exact h'
  · simp [Array.getElem?_eq_none h'] at h
set_option maxHeartbeats 8000000 in
theorem drawFit_any (g : Nat) {cs : List Value} {t : Table} (w : World) (h : IsRd w g) (ht : Kd.table.rd w (fun b => b < w.heap.size ∧ b ≠ g) cs t) (h8 : t.cols.length ≤ 8) :
    Calls Tryz.prog 61 #[.pointer (some ⟨g, 0, none⟩), .agg cs.toArray] w (RdSl Kd.val 50 g w (fun xs => xs.length = t.cols.length)) := by
  have hgl := h.lt
  obtain ⟨A0, l0, c0, A1, l1, c1, A2, l2, c2, A3, l3, c3, A4, l4, c4, rfl, hnm, scols, -⟩ := ht
  have hl0 : t.cols.length = l0 := scols.1
  have HSC := Lib.hid scols
  clear scols
  go_enter Tryz.func61, Tryz.ntmps61
  go_wp2
  generalize hW : World.alloc w _ = W
  have hWs : W.heap.size = w.heap.size + 1 := by rw [← hW]; simp
  obtain ⟨gW, s0, b0⟩ := boxedB hW
  clear hW
  have hgW : g < W.heap.size := Nat.lt_of_lt_of_le hgl gW.size
  have k0 := (free_of b0).1 1
  simp only [List.getElem?_toArray, List.getElem?_cons_succ, List.getElem?_cons_zero] at k0
  have K0 := Lib.hid k0
  clear b0 k0
  have own0 : OwnG Kd.val 50 W.heap.size (W.alloc (.cells #[] 50)) (some ⟨W.heap.size, 0, none⟩) 0 0 [] := OwnG.made (Nat.le_refl _)
  have hR0 := h.of_grow gW
  go_loopw [5, 6] (fun sv i wr => ∃ (k c : Nat) (P : Option Addr) (xs : List Val), k ≤ l0 ∧ i = .int .i64 k ∧ sv = .slice P k c ∧ OwnG Kd.val 50 W.heap.size wr P k c xs ∧ GrowX g W wr ∧ IsRd wr g) (fun _ i _ => l0 - (intOf i).toNat)
  case atStart => exact ⟨0, 0, some ⟨W.heap.size, 0, none⟩, [], Nat.zero_le _, rfl, by rw [hWs], own0, (GrowX.refl g W).alloc _, hR0.of_grow ((Grow.refl _).alloc _)⟩
  case round =>
    obtain ⟨k, c, P, xs, hk, rfl, rfl, own, hG, hR⟩ := hrel
    have hxl := own.len
    have t0 : wr.cell? ⟨w.heap.size, 1, none⟩ = some (.slice A0 l0 c0) := (hG.cell s0 (by omega)).trans K0.out
    have t0s : w.heap.size < wr.heap.size := Nat.lt_of_lt_of_le s0 hG.size
    by_cases hlt : k < l0
    · have i0 : (0 : Int) ≤ (k : Int) := Int.natCast_nonneg k
      have i1 : (k : Int) < (l0 : Int) := Int.ofNat_lt.mpr hlt
      obtain ⟨bC, oC, x, rfl, hx, hSC, hbC, _, _, e0, e1, e2, e3, e4, e5, _⟩ := col_at HSC.out hlt
      have E1 := Lib.hid e1
      have hne := hSC.2
      have hGw : GrowX g w wr := (GrowX.of gW).trans hG
      clear hx e0 e1 e2 e3 e4 e5 hSC
      go_wp2_with fail
      refine (below_any g 5 _ hR (by decide)).mono ?_
      rintro e w1 ⟨y, rfl, hy, hG1, hR1⟩
      go_wp2_with fail
      refine (l1Int_any _ _).mono ?_
      rintro e w2 ⟨rfl, g2⟩
      have hG2 : GrowX g wr w2 := hG1.trans (GrowX.of g2)
      have t2 : w2.cell? ⟨w.heap.size, 1, none⟩ = some (.slice (some ⟨bC, oC, none⟩) l0 c0) := (hG2.cell t0s (by omega)).trans t0
      have t2s := Nat.lt_of_lt_of_le t0s hG2.size
      have f2 : w2.cell? ⟨bC, oC + k * 6 + 1, none⟩ = some (.int .i64 x.kind) := ((hGw.trans hG2).cell hbC hne).trans E1.out
      have f2s := Nat.lt_of_lt_of_le hbC (hGw.trans hG2).size
      have own2 := own.growX hG2 hgW
      have hGW2 := hG.trans hG2
      have hR2 := hR1.of_grow g2
      have hV0 : W.heap.size ≤ w2.heap.size := hGW2.size
      have hPV : blockOf P ≠ some w2.heap.size := fun e => by have := (own2.baseB _ e).2; omega
      have F0 : FitIn g w2.heap.size k c P xs W (w2.alloc (.cells #[.int .i64 1, .int .i64 y, .string ⟨#[]⟩] 50)) := ⟨⟨1, y, ⟨#[]⟩⟩, new_block _ _, Nat.zero_le _, own2.grow ((Grow.refl _).alloc _), hGW2.alloc _, hR2.of_grow ((Grow.refl _).alloc _)⟩
      go_upto_if 25 with (fail)
      go_cut [] (fun wx => FitIn g w2.heap.size k c P xs W wx)
      case first =>
        by_cases hk2 : x.kind = 2
        · have hkb : (x.kind == 2) = true := by simpa using hk2
          generalize hV : World.alloc w2 _ = V1 at F0 ⊢
          clear hV t2 f2
          go_wp2_with fail
          generalize hV2 : World.alloc V1 _ = V2
          obtain ⟨gV2, sV2, bV2⟩ := boxedB hV2
          clear hV2
          have hRV := F0.choose_spec.2.2.2.2
          have hgV1 := hRV.lt
          have F1 := F0.next (GrowX.of gV2) (hRV.of_grow gV2) hgW hV0
          refine (below_any g 3 _ (hRV.of_grow gV2) (by decide)).mono ?_
          rintro e w3 ⟨z, rfl, hz, hG3, hR3⟩
          have F2 := F1.next hG3 hR3 hgW hV0
          have q3 := (free_of ((hG3.block _ sV2 (by omega)).trans bV2)).1
          have q3s := Nat.lt_of_lt_of_le sV2 hG3.size
          clear F0 F1 bV2
          obtain rfl | rfl | rfl : z = 0 ∨ z = 1 ∨ z = 2 := by unfold RdBelow at hz; omega
          all_goals
            go_wp2_with fail
            refine (l1Str_gen _ _ (by decide)).mono ?_
            rintro e w4 ⟨t4, ht4, rfl, g4⟩
            have F3 := F2.next (GrowX.of g4) (hR3.of_grow g4) hgW hV0
            obtain ⟨vz, hvb, _, _, _, _⟩ := id F3
            obtain ⟨z1, z2, z3, z4, z5⟩ := fit_box hvb
            clear hvb
            go_wp2
            go_meet
            exact F3.put hgW hV0 hPV ⟨2, 0, t4⟩ ht4
        · have hkb : (x.kind == 2) = false := by simpa using hk2
          go_wp2
          go_meet
          exact F0
      case rest =>
        have F1 := hcut
        clear hcut F0 t2 f2
        obtain ⟨wa, hwa⟩ : ∃ v, v = wc := ⟨_, rfl⟩
        rw [← hwa] at F1 ⊢
        clear hwa
        have hRa := F1.choose_spec.2.2.2.2
        go_wp2_with fail
        refine (once_any g 8 _ hRa (by decide) (by decide)).mono ?_
        rintro e w3 ⟨x3, rfl, hG3, hR3⟩
        replace F1 := F1.next hG3 hR3 hgW hV0
        go_upto_if 33 with (fail)
        go_cut [] (fun wx => FitIn g w2.heap.size k c P xs W wx)
        case first =>
          cases x3 with
          | false =>
            go_wp2
            go_meet
            exact F1
          | true =>
            obtain ⟨vz, hvb, _, _, _, _⟩ := id F1
            obtain ⟨z1, z2, z3, z4, z5⟩ := fit_box hvb
            clear hvb
            go_wp2
            go_meet
            exact F1.put hgW hV0 hPV ⟨0, 0, ⟨#[]⟩⟩ (Nat.zero_le _)
        case rest =>
          have F2 := hcut
          clear hcut F1
          obtain ⟨wb, hwb⟩ : ∃ v, v = wc := ⟨_, rfl⟩
          rw [← hwb] at F2 ⊢
          clear hwb
          have hRb := F2.choose_spec.2.2.2.2
          go_wp2_with fail
          refine (once_any g 60 _ hRb (by decide) (by decide)).mono ?_
          rintro e w4 ⟨x4, rfl, hG4, hR4⟩
          replace F2 := F2.next hG4 hR4 hgW hV0
          go_upto_if 36 with (fail)
          go_cut [] (fun wx => FitIn g w2.heap.size k c P xs W wx)
          case first =>
            cases x4 with
            | false =>
              go_wp2
              go_meet
              exact F2
            | true =>
              go_wp2_with fail
              refine (val_any g _ hR4).mono ?_
              rintro e w5 ⟨v5, rfl, hv5, hz5, hG5, hR5⟩
              have F3 := F2.next hG5 hR5 hgW hV0
              obtain ⟨vz, hvb, _, _, _, _⟩ := id F3
              obtain ⟨z1, z2, z3, z4, z5⟩ := fit_box hvb
              clear hvb
              go_wp2
              go_meet
              exact F3.put hgW hV0 hPV v5 hz5
          case rest =>
            have F3 := hcut
            clear hcut F2
            obtain ⟨wd, hwd⟩ : ∃ v, v = wc := ⟨_, rfl⟩
            rw [← hwd] at F3 ⊢
            clear hwd
            obtain ⟨v, hvb, hvz, own3, hG3', hR3'⟩ := F3
            obtain ⟨z1, z2, z3, z4, z5⟩ := fit_box hvb
            clear hvb
            go_wp2_with (at_builtin; refine wpList_appG ones_val elem_val rfl (.tmp 39) (.tmp 41) (by rfl) (by rfl) (own3.grow ((Grow.refl wd).alloc _)) ((hG3'.alloc _).size) (by rfl) (isSl_one (x := v) (by decide) (new_block _ _) ⟨rfl, by unfold maxLen; omega⟩) (conv_plain plain_val) (q := k + 1) rfl (by unfold maxLen; omega) (by omega) (fun A6 c6 w6 ap6 => ?_))
            have G6 : GrowX g W w6 := ap6.growX (hG3'.alloc _) (Nat.le_refl _)
            have R6 := ap6.rd (hR3'.of_grow ((Grow.refl _).alloc _)) hgW
            go_roundw
            case rel => exact ⟨k + 1, c6, A6, xs ++ [v], by omega, by go_num, rfl, ap6.own, G6, R6⟩
            case measure => simp [intOf]; omega
    · obtain rfl : k = l0 := by omega
      go_wp2
      go_ret
      exact ⟨P, k, c, xs, rfl, own.low (by omega), by omega, (GrowX.of gW).trans hG, hR⟩
abbrev SameX (g : Nat) (w w' : World) : Prop := ∀ b o, b < w.heap.size → b ≠ g → w'.cell? ⟨b, o, none⟩ = w.cell? ⟨b, o, none⟩
theorem GrowX.both {g : Nat} {w w' : World} (h : GrowX g w w') : GrowX g w w' ∧ SameX g w w' := ⟨h, fun b o hb hn => h.cell hb hn⟩
/-- The row of one table under way: its slice lies in the database's cell i; the rest is as it was in wi, but for the reader. -/
def RawIn (g D i : Nat) (cur : Array Value) (wi w0 w : World) (R : Option Addr) (l c : Nat) (rows : List Row) : Prop :=
  w.heap[D]? = some (.cells (cur.setIfInBounds i (.slice R l c)) 39 (0, 0)) ∧ OwnG Kd.row 48 wi.heap.size w R l c rows ∧
  (∀ b, b < wi.heap.size → b ≠ g → b ≠ D → w.heap[b]? = wi.heap[b]?) ∧ wi.heap.size ≤ w.heap.size ∧ GrowX g w0 w ∧ IsRd w g
theorem flat_zero (w : World) (S : Nat → Prop) : ∀ n, Flat Kd.data w S (List.replicate n (.slice none 0 0)) (List.replicate n ⟨[]⟩)
  | 0 => rfl
  | n + 1 => ⟨[.slice none 0 0], List.replicate n (.slice none 0 0), rfl, ⟨none, 0, 0, rfl, nilSl⟩, flat_zero w S n⟩
theorem set_set (a : Array Value) (k : Nat) (u v : Value) : (a.setIfInBounds k u).setIfInBounds k v = a.setIfInBounds k v := by
  apply Array.ext_getElem?
  intro j
  by_cases hj : k = j
  · subst hj
    rw [Array.getElem?_setIfInBounds_self, Array.getElem?_setIfInBounds_self, Array.size_setIfInBounds]
  · rw [Array.getElem?_setIfInBounds_ne hj, Array.getElem?_setIfInBounds_ne hj, Array.getElem?_setIfInBounds_ne hj]
theorem ones_row : Ones Kd.row := fun w S cs a h u hu => by
  obtain ⟨_, _, _, rfl, _⟩ := h
  simp only [List.mem_cons, List.not_mem_nil, or_false] at hu
  rcases hu with rfl | rfl <;> rfl
theorem elem_row : ElemOk Tryz.prog 37 48 2 32 := elemOk_of Tryz.underlying37 info_row rfl (by decide)
def RawRes (g n : Nat) (w : World) (e : Ending) (w' : World) : Prop := ∃ (A : Option Addr) (m c : Nat) (db : List Data), e = .returned (.slice A m c) ∧ IsSl Kd.data w' (Fresh w.heap.size w') A m c db ∧
  m ≤ n ∧ (∀ d ∈ db, d.rows.length ≤ 4 ∧ ∀ r ∈ d.rows, 2 ≤ r.vals.length) ∧ GrowX g w w' ∧ IsRd w' g
set_option maxHeartbeats 8000000 in
theorem raw_any (g : Nat) {A : Option Addr} {la ca : Nat} {s : List Table} (w : World) (h : IsRd w g) (hs : IsSl Kd.table w (fun b => b < w.heap.size ∧ b ≠ g) A la ca s) (hn : la ≤ 5) (hb : ∀ t ∈ s, 2 ≤ t.cols.length ∧ t.cols.length ≤ 3) :
    Calls Tryz.prog 33 #[.pointer (some ⟨g, 0, none⟩), .slice A la ca] w (RawRes g la w) := by
  have hgl := h.lt
  have HB := Lib.hid (show 24 * la ≤ 281474976710656 by omega)
  have HL := Lib.hid (show la ≤ maxLen by unfold maxLen; omega)
  obtain ⟨i0, hi, hz0, hz1, hz2⟩ := info_parts info_data
  go_enter Tryz.func33, Tryz.ntmps33
  go_wp2_with (at_make; refine wpList_make_full _ rfl _ _ 25 rfl w.heap.size 39 i0 _ 1 Tryz.underlying25 hi hz0 hz1 .i64 .i64 _ _ la rfl rfl rfl rfl (by rw [hz2]; exact HB.out) HL.out (Nat.le_refl _) ?_; intro w0 hown hgrow)
  have hG0 : Grow w w0 := Below.grown (Below.refl _ _) hgrow (Nat.le_refl _) (fun k hk => by cases hk)
  have hcells : ∃ rows, w0.ownsRow w.heap.size 39 1 (.slice (some ⟨w.heap.size, 0, none⟩) la la) la rows ∧ ∀ j, j < la → rows[j]? = some (.slice none 0 0) := ⟨_, hown, fun j hj => by
    rw [Array.getElem?_toList, madeCells]
    simp [hj, Value.cells, Nat.mod_one]⟩
  clear hown hgrow hi hz0 hz1 hz2
  have hD0 : w.heap.size < w0.heap.size := by
    obtain ⟨rows, ⟨_, h0 | ⟨p, cap, cur, hv, _, hh, _⟩⟩, _⟩ := hcells
    · cases h0.1
    · simp only [Value.slice.injEq, Option.some.injEq, Addr.mk.injEq, and_true, true_and] at hv
      obtain ⟨rfl, _⟩ := hv
      rcases Nat.lt_or_ge w.heap.size w0.heap.size with h' | h'
      · exact h'
      · simp [Array.getElem?_eq_none h'] at hh
  have own0 : OwnG Kd.data 39 w.heap.size w0 (some ⟨w.heap.size, 0, none⟩) la la (List.replicate la ⟨[]⟩) := by
    obtain ⟨rows, h1, h2⟩ := hcells
    have hl : rows.length = la := by have := h1.1; omega
    have hr : rows = List.replicate la (.slice none 0 0) := List.ext_getElem? fun j => by
      by_cases hj : j < la
      · rw [h2 j hj, List.getElem?_replicate, if_pos hj]
      · rw [List.getElem?_eq_none (by omega), List.getElem?_eq_none (by simp; omega)]
    refine ⟨rows, h1, ?_, by simp⟩
    rw [hr]
    exact flat_zero _ _ la
  have hz0 : ∀ j, j < la → w0.cell? ⟨w.heap.size, j, none⟩ = some (.slice none 0 0) := fun j hj => by
    obtain ⟨rows, ⟨_, h0 | ⟨p, cap, cur, hv, _, hh, _, _, hs, ht⟩⟩, h2⟩ := hcells
    · cases h0.1
    · simp only [Value.slice.injEq, Option.some.injEq, Addr.mk.injEq, and_true, true_and] at hv
      obtain ⟨rfl, rfl⟩ := hv
      rw [cell_of hh, ← Array.getElem?_toList, ← List.getElem?_take_of_lt (j := la * 1) (by omega), ht]
      exact h2 j hj
  clear hcells
  have hR0 := h.of_grow hG0
  go_wp2
  go_loopw [6] (fun iv wr => ∃ (k : Nat) (ds : List Data), k ≤ la ∧ iv = .int .i64 k ∧ OwnG Kd.data 39 w.heap.size wr (some ⟨w.heap.size, 0, none⟩) la la ds ∧ (∀ d ∈ ds, d.rows.length ≤ 4 ∧ ∀ r ∈ d.rows, 2 ≤ r.vals.length) ∧ (∀ j, k ≤ j → j < la → wr.cell? ⟨w.heap.size, j, none⟩ = some (.slice none 0 0)) ∧ GrowX g w wr ∧ IsRd wr g) (fun iv _ => la - (intOf iv).toNat)
  case atStart => exact ⟨0, _, Nat.zero_le _, rfl, own0, fun d hd => by
    obtain rfl := (List.mem_replicate.mp hd).2
    exact ⟨Nat.zero_le _, fun r hr => by cases hr⟩, fun j _ hj => hz0 j hj, GrowX.of hG0, hR0⟩
  case round =>
    obtain ⟨k, ds, hk, rfl, own, hds, hz, hG, hR⟩ := hrel
    clear own0 hz0 hR0
    by_cases hlt : k < la
    · have i0 : (0 : Int) ≤ (k : Int) := Int.natCast_nonneg k
      have i1 : (k : Int) < (la : Int) := Int.ofNat_lt.mpr hlt
      go_wp2_with fail
      refine (below_any g 5 _ hR (by decide)).mono ?_
      rintro e w1 ⟨y, rfl, hy, hG1, hR1⟩
      have hy0 : 0 ≤ y ∧ y ≤ 4 := by unfold RdBelow at hy; omega
      clear hy
      have own1 := own.growX hG1 hgl
      have hGw1 := hG.trans hG1
      have hD1 : w.heap.size < w1.heap.size := (own1.baseB _ rfl).2
      have hzk : w1.cell? ⟨w.heap.size, k, none⟩ = some (.slice none 0 0) := (hG1.cell (own.baseB _ rfl).2 (by show w.heap.size ≠ g; omega)).trans (hz k (Nat.le_refl _) hlt)
      have hzr : ∀ j, k + 1 ≤ j → j < la → w1.cell? ⟨w.heap.size, j, none⟩ = some (.slice none 0 0) := fun j h1 h2 => (hG1.cell (own.baseB _ rfl).2 (by show w.heap.size ≠ g; omega)).trans (hz j (by omega) h2)
      obtain ⟨cur, hcur, hcs⟩ : ∃ cur, w1.heap[w.heap.size]? = some (.cells cur 39 (0, 0)) ∧ cur.size = la := by
        obtain ⟨rows, ⟨_, h0 | ⟨p, cap, cur, hv, _, hh, _, _, hs', _⟩⟩, _⟩ := own1
        · cases h0.1
        · simp only [Value.slice.injEq, Option.some.injEq, Addr.mk.injEq, and_true, true_and] at hv
          obtain ⟨rfl, rfl⟩ := hv
          exact ⟨cur, hh, by rw [hs']; exact Nat.mul_one _⟩
      have hck : cur[k]? = some (.slice none 0 0) := by rw [← (free_of hcur).1]; exact hzk
      have hself : cur.setIfInBounds k (.slice none 0 0) = cur := by
        apply Array.ext_getElem?
        intro j
        by_cases hj : k = j
        · subst hj
          rw [Array.getElem?_setIfInBounds_self, if_pos (by omega), hck]
        · rw [Array.getElem?_setIfInBounds_ne hj]
      have RI0 : RawIn g w.heap.size k cur w1 w w1 none 0 0 [] := ⟨by rw [hself]; exact hcur, OwnG.nil, fun _ _ _ _ => rfl, Nat.le_refl _, hGw1, hR1⟩
      clear hzk hself hz
      go_wp2
      go_loopw [7, 8] (fun idv kv w2 => ∃ (q : Nat) (id : Int) (R : Option Addr) (l c : Nat) (rows : List Row), kv = .int .i64 q ∧ idv = .int .i64 id ∧ l + q ≤ 4 ∧ 0 ≤ id ∧ id ≤ 1 + 2 * (l : Int) ∧ RawIn g w.heap.size k cur w1 w w2 R l c rows ∧ (∀ r ∈ rows, 2 ≤ r.vals.length)) (fun _ kv _ => (intOf kv).toNat)
      case atStart => exact ⟨y.toNat, 1, none, 0, 0, [], by congr 1; omega, rfl, by omega, by decide, by decide, RI0, by simp⟩
      case round =>
        obtain ⟨q, id, R, l, c, rows, rfl, rfl, hlq, hid0, hid1, RI, hrv⟩ := hrel
        by_cases hq : 0 < q
        · have hq' : (0 : Int) < (q : Int) := by omega
          obtain ⟨b1, b2, b3, b4, b5, b6⟩ := RI
          have hDs : w.heap.size < wr.heap.size := Nat.lt_of_lt_of_le hD1 b4
          have hcD : wr.cell? ⟨w.heap.size, k, none⟩ = some (.slice R l c) := by rw [(free_of b1).1, Array.getElem?_setIfInBounds_self, if_pos (by omega)]
          have hfD := (free_of b1).2
          obtain ⟨bT, oT, t, T0, p0, d0, T1, p1, d1, T2, p2, d2, T3, p3, d3, T4, p4, d4, rfl, hx, hST, hbT, hnm, e0, e1, e2, e3, e4, e5, _, _, _, _, _, hrd⟩ := table_at hs hlt
          have hne := hST.2
          have htb := hb t (List.mem_of_getElem? hx.out)
          have HRD := Lib.hid hrd
          have B1 := Lib.hid b1
          clear hx hST hrd b1
          go_wp2_with fail
          refine wp_region_held_drew (S := (fun w' => GrowX g w w' ∧ SameX g w w')) (by kernel_rfl) (by exact b5.drew.both) (fun hHeld => ?_)
          ((refine tk 0 24 rfl rfl (v := ?_) ?_ ?_; rotate_left 1; (focus (intro w hSw; (try dsimp only at hSw); go_simp; (try with_reducible rfl); done)); all_goals (try simp only [Act.put, List.setIfInBounds_toArray, List.set_cons_zero, List.set_cons_succ])); (refine tk 1 25 rfl rfl (v := ?_) ?_ ?_; rotate_left 1; (focus (intro w hSw; (try dsimp only at hSw); go_simp; (try with_reducible rfl); done)); all_goals (try simp only [Act.put, List.setIfInBounds_toArray, List.set_cons_zero, List.set_cons_succ])); (refine tk 2 26 rfl rfl (v := ?_) ?_ ?_; rotate_left 1; (focus (intro w hSw; (try dsimp only at hSw); go_simp; (try with_reducible rfl); done)); all_goals (try simp only [Act.put, List.setIfInBounds_toArray, List.set_cons_zero, List.set_cons_succ])); (refine tk 3 27 rfl rfl (v := ?_) ?_ ?_; rotate_left 1; (focus (intro w hSw; (try dsimp only at hSw); go_simp; (try with_reducible rfl); done)); all_goals (try simp only [Act.put, List.setIfInBounds_toArray, List.set_cons_zero, List.set_cons_succ])); (refine tk 4 28 rfl rfl (v := ?_) ?_ ?_; rotate_left 1; (focus (intro w hSw; (try dsimp only at hSw); go_simp; (try with_reducible rfl); done)); all_goals (try simp only [Act.put, List.setIfInBounds_toArray, List.set_cons_zero, List.set_cons_succ])); (refine tk 5 29 rfl rfl (v := ?_) ?_ ?_; rotate_left 1; (focus (intro w hSw; (try dsimp only at hSw); go_simp; (try with_reducible rfl); done)); all_goals (try simp only [Act.put, List.setIfInBounds_toArray, List.set_cons_zero, List.set_cons_succ])); (refine tk 7 31 rfl rfl (v := ?_) ?_ ?_; rotate_left 1; (focus (intro w hSw; (try dsimp only at hSw); go_simp; (try with_reducible rfl); done)); all_goals (try simp only [Act.put, List.setIfInBounds_toArray, List.set_cons_zero, List.set_cons_succ])); (refine tk 8 32 rfl rfl (v := ?_) ?_ ?_; rotate_left 1; (focus (intro w hSw; (try dsimp only at hSw); go_simp; (try with_reducible rfl); done)); all_goals (try simp only [Act.put, List.setIfInBounds_toArray, List.set_cons_zero, List.set_cons_succ])); (refine tk 9 33 rfl rfl (v := ?_) ?_ ?_; rotate_left 1; (focus (intro w hSw; (try dsimp only at hSw); go_simp; (try with_reducible rfl); done)); all_goals (try simp only [Act.put, List.setIfInBounds_toArray, List.set_cons_zero, List.set_cons_succ])); (refine tk 10 34 rfl rfl (v := ?_) ?_ ?_; rotate_left 1; (focus (intro w hSw; (try dsimp only at hSw); go_simp; (try with_reducible rfl); done)); all_goals (try simp only [Act.put, List.setIfInBounds_toArray, List.set_cons_zero, List.set_cons_succ])); (refine tk 11 35 rfl rfl (v := ?_) ?_ ?_; rotate_left 1; (focus (intro w hSw; (try dsimp only at hSw); go_simp; (try with_reducible rfl); done)); all_goals (try simp only [Act.put, List.setIfInBounds_toArray, List.set_cons_zero, List.set_cons_succ])); (refine tk 12 36 rfl rfl (v := ?_) ?_ ?_; rotate_left 1; (focus (intro w hSw; (try dsimp only at hSw); go_simp; (try with_reducible rfl); done)); all_goals (try simp only [Act.put, List.setIfInBounds_toArray, List.set_cons_zero, List.set_cons_succ])))
          generalize hV : World.drew wr = V at hHeld ⊢
          have vG : Grow wr V := by rw [← hV]; exact (Grow.refl wr).drew
          clear hV
          have vGX : GrowX g w V := b5.trans (GrowX.of vG)
          have hRV := b6.of_grow vG
          have vsz := vG.size
          have vcD := (vG.same _ k hDs).trans hcD
          have vDs := Nat.lt_of_lt_of_le hDs vG.size
          have hDg : w.heap.size ≠ g := by omega
          have hg1 : g < w1.heap.size := hR1.lt
          have hww1 : w.heap.size ≤ w1.heap.size := hGw1.size
          have b4' : w1.heap.size ≤ V.heap.size := Nat.le_trans b4 vG.size
          have HT : Kd.table.rd V (fun b => b < V.heap.size ∧ b ≠ g) [.string t.name, .slice T0 p0 d0, .slice T1 p1 d1, .slice T2 p2 d2, .slice T3 p3 d3, .slice T4 p4 d4] t := Kd.table.mono HRD.out (fun b hb => ⟨Nat.lt_of_lt_of_le hb.1 vGX.size, hb.2⟩) (fun b hb => vGX.block b hb.1 hb.2)
          refine wpAnyH_ready (rs := [6, 13]) (by kernel_rfl) (by simp) ?_
          refine AllReadyH.cons rfl (fun K hK => ?_) (AllReadyH.cons rfl (fun K hK => ?_) AllReadyH.nil)
          · go_simp
            refine hK.out _ _ (by exact GrowX.both (vGX)) (fun hHeld => ?_)
            clear hK K
            (try refine held_put 30 rfl ?_)
            (try simp only [Act.put, List.setIfInBounds_toArray, List.set_cons_zero, List.set_cons_succ])
            refine wpAnyH_ready (rs := [13]) (by kernel_rfl) (by simp) ?_
            refine AllReadyH.cons rfl (fun K hK => ?_) AllReadyH.nil
            go_simp
            refine (drawFit_any g _ hRV HT (by omega)).mono ?_
            rintro e w3 ⟨A3, n3, c3, vs, rfl, own3, hvl, hG3, hR3⟩
            have c3D := (hG3.cell vDs hDg).trans vcD
            have s3D := Nat.lt_of_lt_of_le vDs hG3.size
            refine hK.out _ _ (by exact GrowX.both (vGX.trans hG3)) (fun hHeld => ?_)
            clear hK K
            (try refine held_put 37 rfl ?_)
            (try simp only [Act.put, List.setIfInBounds_toArray, List.set_cons_zero, List.set_cons_succ])
            ((refine tk 14 38 rfl rfl (v := ?_) ?_ ?_; rotate_left 1; (focus (intro w hSw; (try dsimp only at hSw); go_simp; (try with_reducible rfl); done)); all_goals (try simp only [Act.put, List.setIfInBounds_toArray, List.set_cons_zero, List.set_cons_succ])))
            refine wpAnyH_ready (rs := [15]) (by kernel_rfl) (by simp) ?_
            refine AllReadyH.cons rfl (fun K hK => ?_) AllReadyH.nil
            go_simp
            refine hK.out _ _ (by exact GrowX.both ((vGX.trans hG3).alloc _)) (fun hHeld => ?_)
            clear hK K
            (try refine held_put 39 rfl ?_)
            (try simp only [Act.put, List.setIfInBounds_toArray, List.set_cons_zero, List.set_cons_succ])
            generalize hW4 : World.alloc w3 _ = W4 at hHeld ⊢
            obtain ⟨gW4, s4, q4⟩ := boxedB hW4
            clear hW4
            have own4 := ((b2.grow vG).growX hG3 hg1).grow gW4
            have hRb := fun b e => (b2.baseB b e)
            have hvs : w1.heap.size ≤ w3.heap.size := Nat.le_trans b4' hG3.size
            have SRC : IsSl Kd.row W4 (Led w1.heap.size W4 R) (some ⟨w3.heap.size, 0, none⟩) 1 1 [⟨id, vs⟩] :=
              isSl_lit q4 (flat_one ⟨A3, n3, c3, rfl, own3.isSl.mono (fun b hb => ⟨(hb.low b4').grow gW4, fun e => by have h1 := (hRb b e).2; have h2 := hb.1; omega⟩) (fun b hb => gW4.block hb.2.1)⟩) rfl (by decide) ⟨⟨hvs, s4, (free_of q4).2⟩, fun e => by have h1 := (hRb _ e).2; have h2 := hG3.size; omega⟩
            refine wpAnyH_ready (rs := [16]) (by kernel_rfl) (by simp) ?_
            refine AllReadyH.cons rfl (fun K hK => ?_) AllReadyH.nil
            refine step_appG ones_row elem_row (by rfl) (.tmp 30) (.tmp 39) (by rfl) (by rfl) own4 (Nat.le_trans hvs gW4.size) (by rfl) SRC (fun _ h => h) (q := l + 1) rfl (by unfold maxLen; omega) (by omega) (fun A5 c5 w5 ap5 => ?_)
            have G5 : GrowX g w w5 := ap5.growX ((vGX.trans hG3).trans (GrowX.of gW4)) hww1
            have hRD : blockOf R ≠ some w.heap.size := fun e => by have := (hRb _ e).1; omega
            refine hK.out _ _ (by exact GrowX.both G5) (fun hHeld => ?_)
            clear hK K
            (try refine held_put 40 rfl ?_)
            (try simp only [Act.put, List.setIfInBounds_toArray, List.set_cons_zero, List.set_cons_succ])
            have B5 : w5.heap[w.heap.size]? = some (.cells (cur.setIfInBounds k (.slice R l c)) 39 (0, 0)) := by
              rw [ap5.block _ (Nat.lt_of_lt_of_le s3D gW4.size) hRD, gW4.block s3D, hG3.block _ vDs hDg, vG.block hDs]; exact B1.out
            have c5D := (free_of B5).1 k
            rw [Array.getElem?_setIfInBounds_self, if_pos (by omega)] at c5D
            have f5D := (free_of B5).2
            have s5D : w.heap.size < w5.heap.size := Nat.lt_of_lt_of_le (Nat.lt_of_lt_of_le s3D gW4.size) ap5.size
            ((refine tk 17 41 rfl rfl (v := ?_) ?_ ?_; rotate_left 1; (focus (intro w hSw; (try dsimp only at hSw); go_simp; (try with_reducible rfl); done)); all_goals (try simp only [Act.put, List.setIfInBounds_toArray, List.set_cons_zero, List.set_cons_succ])); (refine tk 18 42 rfl rfl (v := ?_) ?_ ?_; rotate_left 1; (focus (intro w hSw; (try dsimp only at hSw); go_simp; (try with_reducible rfl); done)); all_goals (try simp only [Act.put, List.setIfInBounds_toArray, List.set_cons_zero, List.set_cons_succ])))
            refine wpAnyH_ready (rs := [19]) (by kernel_rfl) (by simp) ?_
            refine AllReadyH.cons rfl (fun K hK => ?_) AllReadyH.nil
            go_simp
            have G6 : GrowX g w (w5.setCell ⟨w.heap.size, k, none⟩ (.slice A5 (l + 1) c5)) := G5.put (Nat.le_refl _) _
            refine hK.out _ _ (by exact GrowX.both G6) (fun hHeld => ?_)
            clear hK K
            (try simp only [Act.put, List.setIfInBounds_toArray, List.set_cons_zero, List.set_cons_succ])
            refine wpAnyH_done (by kernel_rfl) ?_ _
            have R6 : IsRd (w5.setCell ⟨w.heap.size, k, none⟩ (.slice A5 (l + 1) c5)) g := (ap5.rd (hR3.of_grow gW4) hg1).set hgl _
            generalize hW6 : World.setCell w5 _ _ = W6 at G6 R6 ⊢
            have B6 : W6.heap[w.heap.size]? = some (.cells (cur.setIfInBounds k (.slice A5 (l + 1) c5)) 39 (0, 0)) := by
              rw [← hW6, put_own B5, set_set]
            have oth : ∀ b, b ≠ w.heap.size → W6.heap[b]? = w5.heap[b]? := fun b hb => by rw [← hW6]; exact Below.heap_setCell _ _ _ _ hb
            have sz6 : W6.heap.size = w5.heap.size := by rw [← hW6]; simp [World.setCell]
            have own6 : OwnG Kd.row 48 w1.heap.size W6 A5 (l + 1) c5 (rows ++ [⟨id, vs⟩]) := ap5.own.keep (by omega) (fun b hb _ => oth b (by omega))
            have kp6 : ∀ b, b < w1.heap.size → b ≠ g → b ≠ w.heap.size → W6.heap[b]? = w1.heap[b]? := fun b h1 h2 h3 => by
              have hb3 : b < wr.heap.size := Nat.lt_of_lt_of_le h1 b4
              have hbv : b < V.heap.size := Nat.lt_of_lt_of_le hb3 vG.size
              have hb3' : b < w3.heap.size := Nat.lt_of_lt_of_le hbv hG3.size
              rw [oth b h3, ap5.block b (Nat.lt_of_lt_of_le hb3' gW4.size) (fun e => by have := (hRb _ e).1; omega), gW4.block hb3', hG3.block b hbv h2, vG.block hb3]
              exact b3 b h1 h2 h3
            have sz16 : w1.heap.size ≤ W6.heap.size := by rw [sz6]; exact Nat.le_trans hvs (Nat.le_trans gW4.size ap5.size)
            clear B5 c5D f5D hHeld hW6 oth SRC q4
            go_wp2_with fail
            refine (below_any g 2 _ R6 (by decide)).mono ?_
            rintro e w7 ⟨y7, rfl, hy7, hG7, hR7⟩
            have hy70 : 0 ≤ y7 ∧ y7 ≤ 1 := by unfold RdBelow at hy7; omega
            have hD6 : w.heap.size < W6.heap.size := by omega
            have B7 := (hG7.block _ hD6 hDg).trans B6
            have own7 := own6.growX hG7 hg1
            have kp7 : ∀ b, b < w1.heap.size → b ≠ g → b ≠ w.heap.size → w7.heap[b]? = w1.heap[b]? := fun b h1 h2 h3 => (hG7.block b (by omega) h2).trans (kp6 b h1 h2 h3)
            go_wp2
            go_roundw
            case rel => exact ⟨q - 1, id + 1 + y7, A5, l + 1, c5, _, by congr 1; omega, rfl, by omega, by omega, by omega, ⟨B7, own7, kp7, Nat.le_trans sz16 hG7.size, G6.trans hG7, hR7⟩, fun r hr => by
              rcases List.mem_append.mp hr with hr | hr
              · exact hrv r hr
              · simp only [List.mem_singleton] at hr; subst hr; show 2 ≤ vs.length; omega⟩
            case measure => simp [intOf]; omega
          · go_simp
            refine (drawFit_any g _ hRV HT (by omega)).mono ?_
            rintro e w3 ⟨A3, n3, c3, vs, rfl, own3, hvl, hG3, hR3⟩
            have c3D := (hG3.cell vDs hDg).trans vcD
            have s3D := Nat.lt_of_lt_of_le vDs hG3.size
            refine hK.out _ _ (by exact GrowX.both (vGX.trans hG3)) (fun hHeld => ?_)
            clear hK K
            (try refine held_put 37 rfl ?_)
            (try simp only [Act.put, List.setIfInBounds_toArray, List.set_cons_zero, List.set_cons_succ])
            ((refine tk 14 38 rfl rfl (v := ?_) ?_ ?_; rotate_left 1; (focus (intro w hSw; (try dsimp only at hSw); go_simp; (try with_reducible rfl); done)); all_goals (try simp only [Act.put, List.setIfInBounds_toArray, List.set_cons_zero, List.set_cons_succ])))
            refine wpAnyH_ready (rs := [6, 15]) (by kernel_rfl) (by simp) ?_
            refine AllReadyH.cons rfl (fun K hK => ?_) (AllReadyH.cons rfl (fun K hK => ?_) AllReadyH.nil)
            · go_simp
              refine hK.out _ _ (by exact GrowX.both (vGX.trans hG3)) (fun hHeld => ?_)
              clear hK K
              (try refine held_put 30 rfl ?_)
              (try simp only [Act.put, List.setIfInBounds_toArray, List.set_cons_zero, List.set_cons_succ])
              refine wpAnyH_ready (rs := [15]) (by kernel_rfl) (by simp) ?_
              refine AllReadyH.cons rfl (fun K hK => ?_) AllReadyH.nil
              go_simp
              refine hK.out _ _ (by exact GrowX.both ((vGX.trans hG3).alloc _)) (fun hHeld => ?_)
              clear hK K
              (try refine held_put 39 rfl ?_)
              (try simp only [Act.put, List.setIfInBounds_toArray, List.set_cons_zero, List.set_cons_succ])
              generalize hW4 : World.alloc w3 _ = W4 at hHeld ⊢
              obtain ⟨gW4, s4, q4⟩ := boxedB hW4
              clear hW4
              have own4 := ((b2.grow vG).growX hG3 hg1).grow gW4
              have hRb := fun b e => (b2.baseB b e)
              have hvs : w1.heap.size ≤ w3.heap.size := Nat.le_trans b4' hG3.size
              have SRC : IsSl Kd.row W4 (Led w1.heap.size W4 R) (some ⟨w3.heap.size, 0, none⟩) 1 1 [⟨id, vs⟩] :=
                isSl_lit q4 (flat_one ⟨A3, n3, c3, rfl, own3.isSl.mono (fun b hb => ⟨(hb.low b4').grow gW4, fun e => by have h1 := (hRb b e).2; have h2 := hb.1; omega⟩) (fun b hb => gW4.block hb.2.1)⟩) rfl (by decide) ⟨⟨hvs, s4, (free_of q4).2⟩, fun e => by have h1 := (hRb _ e).2; have h2 := hG3.size; omega⟩
              refine wpAnyH_ready (rs := [16]) (by kernel_rfl) (by simp) ?_
              refine AllReadyH.cons rfl (fun K hK => ?_) AllReadyH.nil
              refine step_appG ones_row elem_row (by rfl) (.tmp 30) (.tmp 39) (by rfl) (by rfl) own4 (Nat.le_trans hvs gW4.size) (by rfl) SRC (fun _ h => h) (q := l + 1) rfl (by unfold maxLen; omega) (by omega) (fun A5 c5 w5 ap5 => ?_)
              have G5 : GrowX g w w5 := ap5.growX ((vGX.trans hG3).trans (GrowX.of gW4)) hww1
              have hRD : blockOf R ≠ some w.heap.size := fun e => by have := (hRb _ e).1; omega
              refine hK.out _ _ (by exact GrowX.both G5) (fun hHeld => ?_)
              clear hK K
              (try refine held_put 40 rfl ?_)
              (try simp only [Act.put, List.setIfInBounds_toArray, List.set_cons_zero, List.set_cons_succ])
              have B5 : w5.heap[w.heap.size]? = some (.cells (cur.setIfInBounds k (.slice R l c)) 39 (0, 0)) := by
                rw [ap5.block _ (Nat.lt_of_lt_of_le s3D gW4.size) hRD, gW4.block s3D, hG3.block _ vDs hDg, vG.block hDs]; exact B1.out
              have c5D := (free_of B5).1 k
              rw [Array.getElem?_setIfInBounds_self, if_pos (by omega)] at c5D
              have f5D := (free_of B5).2
              have s5D : w.heap.size < w5.heap.size := Nat.lt_of_lt_of_le (Nat.lt_of_lt_of_le s3D gW4.size) ap5.size
              ((refine tk 17 41 rfl rfl (v := ?_) ?_ ?_; rotate_left 1; (focus (intro w hSw; (try dsimp only at hSw); go_simp; (try with_reducible rfl); done)); all_goals (try simp only [Act.put, List.setIfInBounds_toArray, List.set_cons_zero, List.set_cons_succ])); (refine tk 18 42 rfl rfl (v := ?_) ?_ ?_; rotate_left 1; (focus (intro w hSw; (try dsimp only at hSw); go_simp; (try with_reducible rfl); done)); all_goals (try simp only [Act.put, List.setIfInBounds_toArray, List.set_cons_zero, List.set_cons_succ])))
              refine wpAnyH_ready (rs := [19]) (by kernel_rfl) (by simp) ?_
              refine AllReadyH.cons rfl (fun K hK => ?_) AllReadyH.nil
              go_simp
              have G6 : GrowX g w (w5.setCell ⟨w.heap.size, k, none⟩ (.slice A5 (l + 1) c5)) := G5.put (Nat.le_refl _) _
              refine hK.out _ _ (by exact GrowX.both G6) (fun hHeld => ?_)
              clear hK K
              (try simp only [Act.put, List.setIfInBounds_toArray, List.set_cons_zero, List.set_cons_succ])
              refine wpAnyH_done (by kernel_rfl) ?_ _
              have R6 : IsRd (w5.setCell ⟨w.heap.size, k, none⟩ (.slice A5 (l + 1) c5)) g := (ap5.rd (hR3.of_grow gW4) hg1).set hgl _
              generalize hW6 : World.setCell w5 _ _ = W6 at G6 R6 ⊢
              have B6 : W6.heap[w.heap.size]? = some (.cells (cur.setIfInBounds k (.slice A5 (l + 1) c5)) 39 (0, 0)) := by
                rw [← hW6, put_own B5, set_set]
              have oth : ∀ b, b ≠ w.heap.size → W6.heap[b]? = w5.heap[b]? := fun b hb => by rw [← hW6]; exact Below.heap_setCell _ _ _ _ hb
              have sz6 : W6.heap.size = w5.heap.size := by rw [← hW6]; simp [World.setCell]
              have own6 : OwnG Kd.row 48 w1.heap.size W6 A5 (l + 1) c5 (rows ++ [⟨id, vs⟩]) := ap5.own.keep (by omega) (fun b hb _ => oth b (by omega))
              have kp6 : ∀ b, b < w1.heap.size → b ≠ g → b ≠ w.heap.size → W6.heap[b]? = w1.heap[b]? := fun b h1 h2 h3 => by
                have hb3 : b < wr.heap.size := Nat.lt_of_lt_of_le h1 b4
                have hbv : b < V.heap.size := Nat.lt_of_lt_of_le hb3 vG.size
                have hb3' : b < w3.heap.size := Nat.lt_of_lt_of_le hbv hG3.size
                rw [oth b h3, ap5.block b (Nat.lt_of_lt_of_le hb3' gW4.size) (fun e => by have := (hRb _ e).1; omega), gW4.block hb3', hG3.block b hbv h2, vG.block hb3]
                exact b3 b h1 h2 h3
              have sz16 : w1.heap.size ≤ W6.heap.size := by rw [sz6]; exact Nat.le_trans hvs (Nat.le_trans gW4.size ap5.size)
              clear B5 c5D f5D hHeld hW6 oth SRC q4
              go_wp2_with fail
              refine (below_any g 2 _ R6 (by decide)).mono ?_
              rintro e w7 ⟨y7, rfl, hy7, hG7, hR7⟩
              have hy70 : 0 ≤ y7 ∧ y7 ≤ 1 := by unfold RdBelow at hy7; omega
              have hD6 : w.heap.size < W6.heap.size := by omega
              have B7 := (hG7.block _ hD6 hDg).trans B6
              have own7 := own6.growX hG7 hg1
              have kp7 : ∀ b, b < w1.heap.size → b ≠ g → b ≠ w.heap.size → w7.heap[b]? = w1.heap[b]? := fun b h1 h2 h3 => (hG7.block b (by omega) h2).trans (kp6 b h1 h2 h3)
              go_wp2
              go_roundw
              case rel => exact ⟨q - 1, id + 1 + y7, A5, l + 1, c5, _, by congr 1; omega, rfl, by omega, by omega, by omega, ⟨B7, own7, kp7, Nat.le_trans sz16 hG7.size, G6.trans hG7, hR7⟩, fun r hr => by
                rcases List.mem_append.mp hr with hr | hr
                · exact hrv r hr
                · simp only [List.mem_singleton] at hr; subst hr; show 2 ≤ vs.length; omega⟩
              case measure => simp [intOf]; omega
            · go_simp
              refine hK.out _ _ (by exact GrowX.both ((vGX.trans hG3).alloc _)) (fun hHeld => ?_)
              clear hK K
              (try refine held_put 39 rfl ?_)
              (try simp only [Act.put, List.setIfInBounds_toArray, List.set_cons_zero, List.set_cons_succ])
              refine wpAnyH_ready (rs := [6]) (by kernel_rfl) (by simp) ?_
              refine AllReadyH.cons rfl (fun K hK => ?_) AllReadyH.nil
              go_simp
              refine hK.out _ _ (by exact GrowX.both ((vGX.trans hG3).alloc _)) (fun hHeld => ?_)
              clear hK K
              (try refine held_put 30 rfl ?_)
              (try simp only [Act.put, List.setIfInBounds_toArray, List.set_cons_zero, List.set_cons_succ])
              generalize hW4 : World.alloc w3 _ = W4 at hHeld ⊢
              obtain ⟨gW4, s4, q4⟩ := boxedB hW4
              clear hW4
              have own4 := ((b2.grow vG).growX hG3 hg1).grow gW4
              have hRb := fun b e => (b2.baseB b e)
              have hvs : w1.heap.size ≤ w3.heap.size := Nat.le_trans b4' hG3.size
              have SRC : IsSl Kd.row W4 (Led w1.heap.size W4 R) (some ⟨w3.heap.size, 0, none⟩) 1 1 [⟨id, vs⟩] :=
                isSl_lit q4 (flat_one ⟨A3, n3, c3, rfl, own3.isSl.mono (fun b hb => ⟨(hb.low b4').grow gW4, fun e => by have h1 := (hRb b e).2; have h2 := hb.1; omega⟩) (fun b hb => gW4.block hb.2.1)⟩) rfl (by decide) ⟨⟨hvs, s4, (free_of q4).2⟩, fun e => by have h1 := (hRb _ e).2; have h2 := hG3.size; omega⟩
              refine wpAnyH_ready (rs := [16]) (by kernel_rfl) (by simp) ?_
              refine AllReadyH.cons rfl (fun K hK => ?_) AllReadyH.nil
              refine step_appG ones_row elem_row (by rfl) (.tmp 30) (.tmp 39) (by rfl) (by rfl) own4 (Nat.le_trans hvs gW4.size) (by rfl) SRC (fun _ h => h) (q := l + 1) rfl (by unfold maxLen; omega) (by omega) (fun A5 c5 w5 ap5 => ?_)
              have G5 : GrowX g w w5 := ap5.growX ((vGX.trans hG3).trans (GrowX.of gW4)) hww1
              have hRD : blockOf R ≠ some w.heap.size := fun e => by have := (hRb _ e).1; omega
              refine hK.out _ _ (by exact GrowX.both G5) (fun hHeld => ?_)
              clear hK K
              (try refine held_put 40 rfl ?_)
              (try simp only [Act.put, List.setIfInBounds_toArray, List.set_cons_zero, List.set_cons_succ])
              have B5 : w5.heap[w.heap.size]? = some (.cells (cur.setIfInBounds k (.slice R l c)) 39 (0, 0)) := by
                rw [ap5.block _ (Nat.lt_of_lt_of_le s3D gW4.size) hRD, gW4.block s3D, hG3.block _ vDs hDg, vG.block hDs]; exact B1.out
              have c5D := (free_of B5).1 k
              rw [Array.getElem?_setIfInBounds_self, if_pos (by omega)] at c5D
              have f5D := (free_of B5).2
              have s5D : w.heap.size < w5.heap.size := Nat.lt_of_lt_of_le (Nat.lt_of_lt_of_le s3D gW4.size) ap5.size
              ((refine tk 17 41 rfl rfl (v := ?_) ?_ ?_; rotate_left 1; (focus (intro w hSw; (try dsimp only at hSw); go_simp; (try with_reducible rfl); done)); all_goals (try simp only [Act.put, List.setIfInBounds_toArray, List.set_cons_zero, List.set_cons_succ])); (refine tk 18 42 rfl rfl (v := ?_) ?_ ?_; rotate_left 1; (focus (intro w hSw; (try dsimp only at hSw); go_simp; (try with_reducible rfl); done)); all_goals (try simp only [Act.put, List.setIfInBounds_toArray, List.set_cons_zero, List.set_cons_succ])))
              refine wpAnyH_ready (rs := [19]) (by kernel_rfl) (by simp) ?_
              refine AllReadyH.cons rfl (fun K hK => ?_) AllReadyH.nil
              go_simp
              have G6 : GrowX g w (w5.setCell ⟨w.heap.size, k, none⟩ (.slice A5 (l + 1) c5)) := G5.put (Nat.le_refl _) _
              refine hK.out _ _ (by exact GrowX.both G6) (fun hHeld => ?_)
              clear hK K
              (try simp only [Act.put, List.setIfInBounds_toArray, List.set_cons_zero, List.set_cons_succ])
              refine wpAnyH_done (by kernel_rfl) ?_ _
              have R6 : IsRd (w5.setCell ⟨w.heap.size, k, none⟩ (.slice A5 (l + 1) c5)) g := (ap5.rd (hR3.of_grow gW4) hg1).set hgl _
              generalize hW6 : World.setCell w5 _ _ = W6 at G6 R6 ⊢
              have B6 : W6.heap[w.heap.size]? = some (.cells (cur.setIfInBounds k (.slice A5 (l + 1) c5)) 39 (0, 0)) := by
                rw [← hW6, put_own B5, set_set]
              have oth : ∀ b, b ≠ w.heap.size → W6.heap[b]? = w5.heap[b]? := fun b hb => by rw [← hW6]; exact Below.heap_setCell _ _ _ _ hb
              have sz6 : W6.heap.size = w5.heap.size := by rw [← hW6]; simp [World.setCell]
              have own6 : OwnG Kd.row 48 w1.heap.size W6 A5 (l + 1) c5 (rows ++ [⟨id, vs⟩]) := ap5.own.keep (by omega) (fun b hb _ => oth b (by omega))
              have kp6 : ∀ b, b < w1.heap.size → b ≠ g → b ≠ w.heap.size → W6.heap[b]? = w1.heap[b]? := fun b h1 h2 h3 => by
                have hb3 : b < wr.heap.size := Nat.lt_of_lt_of_le h1 b4
                have hbv : b < V.heap.size := Nat.lt_of_lt_of_le hb3 vG.size
                have hb3' : b < w3.heap.size := Nat.lt_of_lt_of_le hbv hG3.size
                rw [oth b h3, ap5.block b (Nat.lt_of_lt_of_le hb3' gW4.size) (fun e => by have := (hRb _ e).1; omega), gW4.block hb3', hG3.block b hbv h2, vG.block hb3]
                exact b3 b h1 h2 h3
              have sz16 : w1.heap.size ≤ W6.heap.size := by rw [sz6]; exact Nat.le_trans hvs (Nat.le_trans gW4.size ap5.size)
              clear B5 c5D f5D hHeld hW6 oth SRC q4
              go_wp2_with fail
              refine (below_any g 2 _ R6 (by decide)).mono ?_
              rintro e w7 ⟨y7, rfl, hy7, hG7, hR7⟩
              have hy70 : 0 ≤ y7 ∧ y7 ≤ 1 := by unfold RdBelow at hy7; omega
              have hD6 : w.heap.size < W6.heap.size := by omega
              have B7 := (hG7.block _ hD6 hDg).trans B6
              have own7 := own6.growX hG7 hg1
              have kp7 : ∀ b, b < w1.heap.size → b ≠ g → b ≠ w.heap.size → w7.heap[b]? = w1.heap[b]? := fun b h1 h2 h3 => (hG7.block b (by omega) h2).trans (kp6 b h1 h2 h3)
              go_wp2
              go_roundw
              case rel => exact ⟨q - 1, id + 1 + y7, A5, l + 1, c5, _, by congr 1; omega, rfl, by omega, by omega, by omega, ⟨B7, own7, kp7, Nat.le_trans sz16 hG7.size, G6.trans hG7, hR7⟩, fun r hr => by
                rcases List.mem_append.mp hr with hr | hr
                · exact hrv r hr
                · simp only [List.mem_singleton] at hr; subst hr; show 2 ≤ vs.length; omega⟩
              case measure => simp [intOf]; omega
        · obtain rfl : q = 0 := by omega
          obtain ⟨b1, b2, b3, b4, b5, b6⟩ := RI
          have hgD : w.heap.size ≠ g := by omega
          have ownD : OwnG Kd.data 39 w.heap.size wr (some ⟨w.heap.size, 0, none⟩) la la (ds.set k ⟨rows⟩) := by
            obtain ⟨rows0, ⟨hr, h0 | ⟨p, cap, cur', hv, hB', hh, hle, hmx, hs', ht⟩⟩, hf, hl⟩ := own1
            · cases h0.1
            · simp only [Value.slice.injEq, Option.some.injEq, Addr.mk.injEq, and_true, true_and] at hv
              obtain ⟨rfl, rfl⟩ := hv
              rw [hcur] at hh
              simp only [Option.some.injEq, Obj.cells.injEq, and_true] at hh
              subst hh
              have hk1 : k * Kd.data.n + 0 = k := Nat.mul_one k
              have hled : ∀ b, Led w.heap.size w1 (some ⟨w.heap.size, 0, none⟩) b → wr.heap[b]? = w1.heap[b]? := fun b hb => b3 b hb.1.2.1 (by have := hb.1.1; omega) (fun e => hb.2 (by rw [e]; rfl))
              have hf' : Flat Kd.data wr (Led w.heap.size wr (some ⟨w.heap.size, 0, none⟩)) rows0 ds := hf.mono (fun b hb => ⟨hb.1.step b4 (hled b hb), hb.2⟩) hled
              have hfs := flat_set (k := Kd.data) (j := 0) (by decide) (.slice R l c) (y := ⟨rows⟩) hf' (List.getElem?_eq_getElem (by omega : k < ds.length)) (fun cs hr => by
                obtain ⟨_, _, _, rfl, _⟩ := hr
                exact ⟨R, l, c, rfl, b2.isSl.mono (fun b hb => ⟨hb.low hGw1.size, fun e => by simp only [blockOf, Option.some.injEq] at e; have := hb.1; omega⟩) (fun _ _ => rfl)⟩)
              rw [hk1] at hfs
              refine ⟨_, ⟨by rw [List.length_set]; exact hr, .inr ⟨w.heap.size, la, _, rfl, Nat.le_refl _, b1, Nat.le_refl _, hmx, by simp [hs'], ?_⟩⟩, hfs, by rw [List.length_set]; exact hl⟩
              rw [← ht, Array.toList_setIfInBounds, List.take_set]
          have hzk : ∀ j, k + 1 ≤ j → j < la → wr.cell? ⟨w.heap.size, j, none⟩ = some (.slice none 0 0) := fun j h1 h2 => by
            rw [(free_of b1).1, Array.getElem?_setIfInBounds_ne (by omega), ← (free_of hcur).1]
            exact hzr j h1 h2
          have HZ := Lib.hid hzk
          have HO := Lib.hid ownD
          clear b1 ownD hzk
          go_wp2
          go_roundw
          case rel => exact ⟨k + 1, ds.set k ⟨rows⟩, by omega, by go_num, HO.out, fun d hd => by
            rcases List.mem_or_eq_of_mem_set hd with hd | rfl
            · exact hds d hd
            · exact ⟨by have := b2.len; show rows.length ≤ 4; omega, hrv⟩, HZ.out, b5, b6⟩
          case measure => simp [intOf]; omega
    · obtain rfl : k = la := by omega
      have isl := own.isSl
      go_wp2_with fail
      refine (once_any g 40 _ hR (by decide) (by decide)).mono ?_
      rintro e w1 ⟨x, rfl, hG1, hR1⟩
      have isl1 := (own.growX hG1 hgl).isSl
      cases x
      · go_wp2
        go_ret
        exact ⟨_, k, k, ds, rfl, isl1, Nat.le_refl _, hds, hG.trans hG1, hR1⟩
      · by_cases h0 : 0 < k
        · have h0' : (0 : Int) < (k : Int) := by omega
          go_wp2
          · go_ret
            exact ⟨_, 0, 0, [], rfl, ⟨rfl, Nat.le_refl _, Nat.zero_le _, fun h => absurd h (Nat.lt_irrefl _)⟩, by omega, (fun d hd => by cases hd), hG.trans hG1, hR1⟩
          · go_ret
            exact ⟨_, k - 1, k - 1, ds.drop 1, rfl, isl1.drop (d := 1) (by omega), by omega, fun d hd => hds d (List.mem_of_mem_drop hd), hG.trans hG1, hR1⟩
        · obtain rfl : k = 0 := by omega
          go_wp2
          go_ret
          exact ⟨_, 0, 0, ds, rfl, isl1, Nat.le_refl _, hds, hG.trans hG1, hR1⟩
/-- Tables and rows of one's own are handed back. -/
def DbDrawn (w : World) (e : Ending) (w' : World) : Prop := ∃ (A B : Option Addr) (n c m d : Nat) (s : List Table) (db : List Data), e = .returned (.tuple #[.slice A n c, .slice B m d]) ∧
  IsSl Kd.table w' (Fresh w.heap.size w') A n c s ∧ IsSl Kd.data w' (Fresh w.heap.size w') B m d db ∧ 1 ≤ n ∧ n ≤ 3 ∧ m ≤ 3 ∧ (∀ t ∈ s, 2 ≤ t.cols.length ∧ t.cols.length ≤ 3) ∧ (∀ d ∈ db, d.rows.length ≤ 4 ∧ ∀ r ∈ d.rows, 2 ≤ r.vals.length) ∧ Grow w w'
theorem isl_apart {α : Type} {k : Kd α} {g B : Nat} {w : World} {A : Option Addr} {n c : Nat} {xs : List α} (h : IsSl k w (Fresh B w) A n c xs) (hg : g < B) : IsSl k w (fun b => b < w.heap.size ∧ b ≠ g) A n c xs :=
  h.mono (fun b hb => ⟨hb.2.1, by have := hb.1; omega⟩) (fun _ _ => rfl)
theorem ids_rise {cols : List Col} {rows : List Row} (h : rowsB cols rows = true) : ∀ (j i : Nat) (a b : Row), rows[i]? = some a → rows[j]? = some b → i < j → a.id < b.id
  | 0, _, _, _, _, _, hij => absurd hij (Nat.not_lt_zero _)
  | j + 1, i, a, b, ha, hb, hij => by
    have hrow := h
    simp only [rowsB, Bool.and_eq_true] at hrow
    have hp := allIx_at hrow.2 hb
    obtain ⟨hj, rfl⟩ := List.getElem?_eq_some_iff.mp hb
    have hpr : rows[j]? = some rows[j] := List.getElem?_eq_getElem (by omega)
    have hlt : rows[j].id < rows[j + 1].id := by
      simp only [rowP, Bool.and_eq_true, prevId, Nat.add_sub_cancel, hpr] at hp
      have := hp.1.2
      simp at this
      exact this
    rcases Nat.lt_succ_iff_lt_or_eq.mp hij with h1 | rfl
    · exact Int.lt_trans (ids_rise h j i a _ ha hpr h1) hlt
    · rw [hpr] at ha
      cases ha
      exact hlt
theorem id_inj {cols : List Col} {rows : List Row} (h : rowsB cols rows = true) {a b : Row} (ha : a ∈ rows) (hb : b ∈ rows) (hab : a.id = b.id) : a = b := by
  obtain ⟨i, hi, rfl⟩ := List.getElem_of_mem ha
  obtain ⟨j, hj, rfl⟩ := List.getElem_of_mem hb
  rcases Nat.lt_trichotomy i j with h1 | rfl | h1
  · have := ids_rise h j i _ _ (List.getElem?_eq_getElem hi) (List.getElem?_eq_getElem hj) h1; omega
  · rfl
  · have := ids_rise h i j _ _ (List.getElem?_eq_getElem hj) (List.getElem?_eq_getElem hi) h1; omega
theorem found_has {cols : List Col} {rows : List Row} (h : rowsB cols rows = true) {r : Row} (hr : r ∈ rows) (cs : List Int) (key : List Val) : (foundV rows cs key).any (· == r.id) = hasB cs r.vals key := by
  rw [Bool.eq_iff_iff, List.any_eq_true]
  simp only [foundV, List.mem_map, List.mem_filter, beq_iff_eq]
  constructor
  · rintro ⟨x, ⟨r', ⟨hm, hh⟩, rfl⟩, hx⟩
    rw [id_inj h hm hr hx] at hh
    exact hh
  · intro hh
    exact ⟨r.id, ⟨r, ⟨hr, hh⟩, rfl⟩, rfl⟩
theorem isTab_at {s : List Table} {db : List Data} {table : Int} (h : dbOkB s db = true) (h0 : 0 ≤ table) (h1 : table < s.length) : ∃ d t, db[table.toNat]? = some d ∧ s[table.toNat]? = some t ∧ rowsB t.cols d.rows = true ∧ tableOkB t = true := by
  simp only [dbOkB, Bool.and_eq_true] at h
  have hl := db_len h.2
  have hlt : table.toNat < db.length := by omega
  obtain ⟨t, ht, hr⟩ := db_at h.2 (List.getElem?_eq_getElem hlt)
  exact ⟨_, t, List.getElem?_eq_getElem hlt, ht, hr, schemaOk_at h.1 ht⟩
theorem cols_one (c n : Int) : colsB [c] n = inB c 0 (n - 1) := by simp [colsB, allIx, colP]
/-- The law of what is found, in plain terms. -/
theorem find_has {s : List Table} {db : List Data} {table c : Int} {key : List Val} (h : dbOkB s db = true) {d : Data} {t : Table} (h0 : 0 ≤ table) (h1 : table < s.length) (hd : db[table.toNat]? = some d) {r : Row} (hr : r ∈ d.rows) :
    (findV s db table [c] key).any (· == r.id) = (kKn [c] r.vals && sameV (kOf [c] r.vals) key) := by
  obtain ⟨d', t', hd', ht', hrs, htb⟩ := isTab_at h h0 h1
  rw [hd] at hd'
  cases hd'
  obtain ⟨i, hi, rfl⟩ := List.getElem_of_mem hr
  have hfit := rows_fit hrs (List.getElem?_eq_getElem hi)
  have hvl := fit_len hfit
  have hok := fit_ok hfit (tableOk_cols htb).2
  have hT : tabAt s table = t' := by simp [tabAt, ht']
  have hD : datAt db table = d := by simp [datAt, hd]
  have hin : isTabB s table = true := by simp [isTabB, inB]; omega
  have hkb : keyOfB [c] (d.rows[i]).vals = inB c 0 ((t'.cols.length : Int) - 1) := by simp [keyOfB, hok, outP, hvl]
  by_cases hc : inB c 0 ((t'.cols.length : Int) - 1) = true
  · have hf : findB s db table [c] = true := by simp [findB, h, hin, hT, cols_one, hc]
    rw [findV, if_pos hf, hD, found_has hrs hr]
    simp [hasB, kKn, kOf, hkb, hc]
  · have hf : findB s db table [c] = false := by simp [findB, h, hin, hT, cols_one]; simpa using hc
    rw [findV, if_neg (by rw [hf]; decide)]
    rw [Bool.not_eq_true] at hc
    simp [kKn, hkb, hc]
theorem find_none {s : List Table} {db : List Data} {table : Int} {cols : List Int} {key : List Val} (h : dbOkB s db = false ∨ table < 0 ∨ (s.length : Int) ≤ table) : findV s db table cols key = [] := by
  rw [findV, if_neg]
  simp only [findB, Bool.and_eq_true]
  rintro ⟨⟨h1, h2⟩, _⟩
  rcases h with h | h | h
  · rw [h] at h1; cases h1
  · simp [isTabB, inB] at h2; omega
  · simp [isTabB, inB] at h2; omega
/-- A new database: right, and with no flaw. -/
theorem new_ok {s : List Table} (h : schemaOkB s = true) : dbOkB s (List.replicate s.length ⟨[]⟩) = true := by
  have hr : ∀ cols : List Col, rowsB cols [] = true := fun cols => by simp [rowsB, allIx]
  simp only [dbOkB, dbB, h, List.length_replicate, decide_true, Bool.true_and, allIx, List.all_eq_true, List.mem_range]
  intro i hi
  rw [List.getElem?_replicate, if_pos hi]
  simp only [dataP, List.getElem?_eq_getElem hi, hr]
theorem new_flaws {s : List Table} (b : Bool) : flawsV s (List.replicate s.length ⟨[]⟩) b = [] := by
  simp only [flawsV, List.flatMap_eq_nil_iff, List.mem_range, List.length_replicate]
  intro i hi
  simp only [flawD, List.getElem?_replicate, if_pos hi, List.getElem?_eq_getElem hi]
  rfl
theorem mem_flawsV {s : List Table} {db : List Data} {b : Bool} {x : Flaw} : x ∈ flawsV s db b ↔ ∃ (i : Nat) (d : Data) (t : Table) (r : Row), db[i]? = some d ∧ s[i]? = some t ∧ r ∈ d.rows ∧ x ∈ flawR s db b i t d.rows r := by
  simp only [flawsV, List.mem_flatMap, List.mem_range]
  constructor
  · rintro ⟨i, hi, hx⟩
    unfold flawD at hx
    split at hx
    · rename_i d t hd ht
      obtain ⟨r, hr, hx⟩ := List.mem_flatMap.mp hx
      exact ⟨i, d, t, r, hd, ht, hr, hx⟩
    · simp at hx
  · rintro ⟨i, d, t, r, hd, ht, hr, hx⟩
    refine ⟨i, (List.getElem?_eq_some_iff.mp hd).1, ?_⟩
    simp only [flawD, hd, ht]
    exact List.mem_flatMap.mpr ⟨r, hr, hx⟩
theorem mem_flawIf {b : Bool} {k i id : Int} {x : Flaw} : x ∈ flawIf b k i id ↔ b = true ∧ x = ⟨k, i, id⟩ := by cases b <;> simp [flawIf]
theorem mem_flawR {s : List Table} {db : List Data} {b : Bool} {i : Int} {t : Table} {rows : List Row} {r : Row} {x : Flaw} : x ∈ flawR s db b i t rows r ↔
    (noNullB t.cols r.vals = false ∧ x = ⟨1, i, r.id⟩) ∨ (checkedB t r.vals = false ∧ x = ⟨2, i, r.id⟩) ∨ (rivalV t rows r.id r.vals ≠ [] ∧ x = ⟨3, i, r.id⟩) ∨ (lostRow s db t r.vals b = true ∧ x = ⟨4, i, r.id⟩) := by
  simp only [flawR, List.mem_append, mem_flawIf, Bool.not_eq_true', List.isEmpty_eq_false_iff]
  constructor
  · rintro (((h | h) | h) | h)
    · exact .inl h
    · exact .inr (.inl h)
    · exact .inr (.inr (.inl h))
    · exact .inr (.inr (.inr h))
  · rintro (h | h | h | h)
    · exact .inl (.inl (.inl h))
    · exact .inl (.inl (.inr h))
    · exact .inl (.inr h)
    · exact .inr h
theorem flawsOf_ok {s : List Table} {db : List Data} (h : dbOkB s db = true) : flawsOf s db = flawsV s db true := by simp [flawsOf, h]
theorem allIx_not {α : Type} {p : Nat → α → Bool} {xs : List α} (h : allIx p xs = false) : ∃ k x, xs[k]? = some x ∧ p k x = false := by
  unfold allIx at h
  rw [List.all_eq_false] at h
  obtain ⟨k, hk, h⟩ := h
  rw [List.mem_range] at hk
  rw [List.getElem?_eq_getElem hk] at h
  exact ⟨k, _, List.getElem?_eq_getElem hk, by simpa using h⟩
theorem tab_in {s : List Table} {db : List Data} (h : dbOkB s db = true) {i : Nat} {d : Data} {t : Table} (hd : db[i]? = some d) (ht : s[i]? = some t) : tableOkB t = true ∧ rowsB t.cols d.rows = true := by
  simp only [dbOkB, Bool.and_eq_true] at h
  obtain ⟨t', ht', hr⟩ := db_at h.2 hd
  rw [ht] at ht'
  cases ht'
  exact ⟨schemaOk_at h.1 ht, hr⟩
theorem row_fit {cols : List Col} {rows : List Row} (h : rowsB cols rows = true) {r : Row} (hr : r ∈ rows) : fitB cols r.vals = true := by
  obtain ⟨i, hi, rfl⟩ := List.getElem_of_mem hr
  exact rows_fit h (List.getElem?_eq_getElem hi)
theorem keyOf_in {t : Table} {vals : List Val} {cols : List Int} (ht : tableOkB t = true) (hf : fitB t.cols vals = true) (hc : colsB cols t.cols.length = true) : keyOfB cols vals = true := by
  have hok := fit_ok hf (tableOk_cols ht).2
  have hl := fit_len hf
  simp only [keyOfB, hok, Bool.true_and, Bool.not_eq_true', List.any_eq_false, outP, hl]
  intro c hcm
  have := colsB_mem hc hcm
  simp [inB]
  omega
theorem key_in {t : Table} (ht : tableOkB t = true) : ∀ cols ∈ keysOf t, colsB cols t.cols.length = true := by
  intro cols hm
  simp only [keysOf, List.mem_cons, List.mem_map] at hm
  rcases hm with rfl | ⟨u, hu, rfl⟩
  · exact (tableOkB_parts ht).1
  · simp only [tableOkB, Bool.and_eq_true, Bool.not_eq_true'] at ht
    have := ht.1.1.2
    unfold uniBad at this
    have := List.any_eq_false.mp this u hu
    simpa [uniP] using this
/-- A row with a null in its key is told. -/
theorem missed_null {s : List Table} {db : List Data} (h : dbOkB s db = true) {i : Nat} {d : Data} {t : Table} {r : Row} (hd : db[i]? = some d) (ht : s[i]? = some t) (hr : r ∈ d.rows) (hk : kKn t.key r.vals = false) : (⟨1, i, r.id⟩ : Flaw) ∈ flawsOf s db := by
  obtain ⟨hT, hR⟩ := tab_in h hd ht
  have hf := row_fit hR hr
  have hcb := (tableOkB_parts hT).1
  rw [flawsOf_ok h]
  refine mem_flawsV.mpr ⟨i, d, t, r, hd, ht, hr, mem_flawR.mpr (.inl ⟨?_, rfl⟩)⟩
  simp only [kKn, keyOf_in hT hf hcb, Bool.true_and] at hk
  unfold knownV at hk
  rw [List.all_eq_false] at hk
  obtain ⟨c, hc, hk⟩ := hk
  have hin := colsB_mem hcb hc
  have hvl := fit_len hf
  have hlt : c.toNat < r.vals.length := by omega
  have hlc : c.toNat < t.cols.length := by omega
  have hv : (r.vals[c.toNat]).kind = 0 := by simpa [valAtC, List.getElem?_eq_getElem hlt] using hk
  have hkb : keyBad t = false := by
    simp only [tableOkB, Bool.and_eq_true, Bool.not_eq_true'] at hT
    exact hT.1.1.1.2
  unfold keyBad at hkb
  have hkp := List.any_eq_false.mp hkb c hc
  simp only [keyP, List.getElem?_eq_getElem hlc] at hkp
  unfold noNullB
  refine allIx_false (List.getElem?_eq_getElem hlt) ?_
  simp only [noNullP, List.getElem?_eq_getElem hlc]
  simp [hv]
  simpa using hkp
theorem rows_pw {cols : List Col} {rows : List Row} (h : rowsB cols rows = true) : rows.Pairwise (fun a b => a.id < b.id) := by
  rw [List.pairwise_iff_getElem]
  intro i j hi hj hij
  exact ids_rise h j i _ _ (List.getElem?_eq_getElem hi) (List.getElem?_eq_getElem hj) hij
/-- Of two that are found one is another row. -/
theorem found_other {cols : List Col} {rows : List Row} (h : rowsB cols rows = true) (id : Int) {cs : List Int} {key : List Val} (h2 : 2 ≤ (foundV rows cs key).length) : ∃ r' ∈ rows, r'.id ≠ id ∧ hasB cs r'.vals key = true := by
  unfold foundV at h2
  rw [List.length_map] at h2
  have hp := (rows_pw h).sublist (List.filter_sublist (p := fun r => hasB cs r.vals key))
  have hm : ∀ x ∈ rows.filter (fun r => hasB cs r.vals key), x ∈ rows ∧ hasB cs x.vals key = true := fun x hx => List.mem_filter.mp hx
  generalize rows.filter (fun r => hasB cs r.vals key) = fl at h2 hp hm
  match fl, h2, hp, hm with
  | a :: b :: l, _, hp, hm =>
    have hab : a.id < b.id := (List.pairwise_cons.mp hp).1 b (by simp)
    by_cases ha : a.id = id
    · exact ⟨b, (hm b (by simp)).1, by omega, (hm b (by simp)).2⟩
    · exact ⟨a, (hm a (by simp)).1, ha, (hm a (by simp)).2⟩
  | [a], h2, _, _ => simp at h2
  | [], h2, _, _ => simp at h2
theorem rival_of {t : Table} {rows : List Row} {r r' : Row} {cols : List Int} (hm : r' ∈ rows) (hn : r'.id ≠ r.id) (hc : cols ∈ keysOf t) (hk : knownV cols r.vals = true) (hh : hasB cols r'.vals (keyV cols r.vals) = true) : rivalV t rows r.id r.vals ≠ [] := by
  unfold rivalV
  intro he
  rw [List.map_eq_nil_iff, List.filter_eq_nil_iff] at he
  refine he r' hm ?_
  simp only [rivalP, Bool.and_eq_true, decide_eq_true_eq, List.any_eq_true]
  exact ⟨hn, cols, hc, by simp [rivP, hk, hh]⟩
theorem findV_eq {s : List Table} {db : List Data} (h : dbOkB s db = true) {i : Nat} {d : Data} {t : Table} (hd : db[i]? = some d) (ht : s[i]? = some t) {cols : List Int} (hc : colsB cols t.cols.length = true) (key : List Val) : findV s db i cols key = foundV d.rows cols key := by
  have hi := (List.getElem?_eq_some_iff.mp ht).1
  have hT : tabAt s i = t := by simp [tabAt, ht]
  have hD : datAt db i = d := by simp [datAt, hd]
  have hin : isTabB s i = true := by simp [isTabB, inB]; omega
  rw [findV, if_pos (by simp [findB, h, hin, hT, hc]), hD]
/-- A row with the key of another one is told. -/
theorem missed_twice {s : List Table} {db : List Data} (h : dbOkB s db = true) {i : Nat} {d : Data} {t : Table} {r : Row} (hd : db[i]? = some d) (ht : s[i]? = some t) (hr : r ∈ d.rows) (hk : kKn t.key r.vals = true)
    (h2 : 2 ≤ (findV s db i t.key (kOf t.key r.vals)).length) : (⟨3, i, r.id⟩ : Flaw) ∈ flawsOf s db := by
  obtain ⟨hT, hR⟩ := tab_in h hd ht
  have hf := row_fit hR hr
  have hcb := (tableOkB_parts hT).1
  have hkb := keyOf_in hT hf hcb
  simp only [kKn, hkb, Bool.true_and] at hk
  rw [findV_eq h hd ht hcb, kOf, if_pos hkb] at h2
  obtain ⟨r', hm, hn, hh⟩ := found_other hR r.id h2
  rw [flawsOf_ok h]
  exact mem_flawsV.mpr ⟨i, d, t, r, hd, ht, hr, mem_flawR.mpr (.inr (.inr (.inl ⟨rival_of hm hn (by simp [keysOf]) hk hh, rfl⟩)))⟩
/-- A row alone: right just where no flaw is told but of what it refers to. -/
def oneOf (s : List Table) (i : Nat) (r : Row) : List Data := (List.replicate s.length (⟨[]⟩ : Data)).set i ⟨[r]⟩
theorem one_at {s : List Table} {i j : Nat} {r : Row} (hj : j < s.length) : (oneOf s i r)[j]? = some (if j = i then ⟨[r]⟩ else ⟨[]⟩) := by
  unfold oneOf
  rw [List.getElem?_set]
  by_cases hij : i = j
  · subst hij
    simp [hj]
  · rw [if_neg hij, if_neg (fun e => hij e.symm), List.getElem?_replicate, if_pos hj]
theorem one_ok {s : List Table} {db : List Data} (h : dbOkB s db = true) {i : Nat} {d : Data} {t : Table} {r : Row} (hd : db[i]? = some d) (ht : s[i]? = some t) (hr : r ∈ d.rows) : dbOkB s (oneOf s i r) = true := by
  obtain ⟨hT, hR⟩ := tab_in h hd ht
  have hf := row_fit hR hr
  obtain ⟨q, hq, rfl⟩ := List.getElem_of_mem hr
  have hid := rows_id hR (List.getElem?_eq_getElem hq)
  simp only [dbOkB, Bool.and_eq_true] at h ⊢
  refine ⟨h.1, ?_⟩
  simp only [dbB, Bool.and_eq_true, decide_eq_true_eq]
  refine ⟨by simp [oneOf], ?_⟩
  simp only [allIx, List.all_eq_true, List.mem_range]
  intro j hj
  have hj' : j < s.length := by simpa [oneOf] using hj
  rw [one_at hj']
  simp only [dataP, List.getElem?_eq_getElem hj']
  by_cases hij : j = i
  · subst hij
    rw [List.getElem?_eq_getElem hj'] at ht
    cases ht
    simp [rowsB, allIx, rowP, inB, hid.1, hid.2, hf]
  · simp [hij, rowsB, allIx]
theorem one_flaws {s : List Table} {db : List Data} (h : dbOkB s db = true) {i : Nat} {d : Data} {t : Table} {r : Row} (hd : db[i]? = some d) (ht : s[i]? = some t) (hr : r ∈ d.rows) :
    (flawsOf s (oneOf s i r)).any (fun x => x.kind != 4) = !rowOkB t r.vals := by
  obtain ⟨hT, hR⟩ := tab_in h hd ht
  have hf := row_fit hR hr
  have hi := (List.getElem?_eq_some_iff.mp ht).1
  rw [flawsOf_ok (one_ok h hd ht hr)]
  have hriv : rivalV t [r] r.id r.vals = [] := by simp [rivalV, rivalP]
  rw [Bool.eq_iff_iff, List.any_eq_true]
  simp only [rowOkB, hT, hf, Bool.true_and, Bool.not_eq_true', Bool.and_eq_false_iff]
  constructor
  · rintro ⟨x, hx, hk⟩
    obtain ⟨j, d', t', r', hd', ht', hr', hx⟩ := mem_flawsV.mp hx
    have hj := (List.getElem?_eq_some_iff.mp ht').1
    rw [one_at hj] at hd'
    by_cases hij : j = i
    · subst hij
      rw [if_pos rfl] at hd'
      cases hd'
      rw [ht] at ht'
      cases ht'
      obtain rfl : r' = r := by simpa using hr'
      rcases mem_flawR.mp hx with h1 | h1 | h1 | h1
      · exact .inl h1.1
      · exact .inr h1.1
      · exact absurd hriv h1.1
      · rw [h1.2] at hk; simp at hk
    · rw [if_neg hij] at hd'
      cases hd'
      simp at hr'
  · intro hb
    have hat : (oneOf s i r)[i]? = some ⟨[r]⟩ := by rw [one_at hi, if_pos rfl]
    rcases hb with hb | hb
    · exact ⟨⟨1, i, r.id⟩, mem_flawsV.mpr ⟨i, _, t, r, hat, ht, by simp, mem_flawR.mpr (.inl ⟨hb, rfl⟩)⟩, by simp⟩
    · exact ⟨⟨2, i, r.id⟩, mem_flawsV.mpr ⟨i, _, t, r, hat, ht, by simp, mem_flawR.mpr (.inr (.inl ⟨hb, rfl⟩))⟩, by simp⟩
theorem big_any {A : Option Addr} {len cap : Nat} (w : World) (hl : len ≤ maxLen) : Calls Tryz.prog 9 #[.slice A len cap] w (Just w (.bool (decide ((len : Int) > 1048576)))) := by
  unfold maxLen at hl
  go_enter Tryz.func9, Tryz.ntmps9
  go_wp2
  go_ret
  exact ⟨ret_bool (by simp), rfl⟩
theorem big_yes {A : Option Addr} {len cap : Nat} (w : World) (hl : len ≤ maxLen) (h : 1048576 < len) : Calls Tryz.prog 9 #[.slice A len cap] w (Just w (.bool true)) :=
  (big_any w hl).mono fun e w' ⟨he, hw⟩ => ⟨by rw [he, decide_eq_true (by omega)], hw⟩
theorem big_no {A : Option Addr} {len cap : Nat} (w : World) (hl : len ≤ maxLen) (h : ¬ 1048576 < len) : Calls Tryz.prog 9 #[.slice A len cap] w (Just w (.bool false)) :=
  (big_any w hl).mono fun e w' ⟨he, hw⟩ => ⟨by rw [he, decide_eq_false (by omega)], hw⟩
theorem flat_len {α β : Type} (f : α → List β) (c : Nat) : ∀ (xs : List α), (∀ x ∈ xs, (f x).length ≤ c) → (xs.flatMap f).length ≤ c * xs.length
  | [], _ => by simp
  | x :: xs, h => by
    have h1 := h x (List.mem_cons_self ..)
    have h2 := flat_len f c xs (fun y hy => h y (List.mem_cons_of_mem _ hy))
    rw [List.flatMap_cons, List.length_append, List.length_cons, Nat.mul_add, Nat.mul_one]
    omega
theorem flawIf_len (b : Bool) (c i id : Int) : (flawIf b c i id).length ≤ 1 := by cases b <;> simp [flawIf]
theorem flawsOf_len (s : List Table) (db : List Data) : (flawsOf s db).length ≤ 1200 := by
  unfold flawsOf
  split
  · rename_i h
    have hlen : db.length = s.length := by simp only [dbOkB, Bool.and_eq_true] at h; exact db_len h.2
    have h5 : s.length ≤ 5 := by simp only [dbOkB, Bool.and_eq_true] at h; exact schemaOk_len h.1
    unfold flawsV
    refine Nat.le_trans (flat_len _ 240 _ fun k hk => ?_) (by rw [List.length_range]; omega)
    unfold flawD
    split
    · rename_i d t hd ht
      obtain ⟨t', ht', h1, h2, h3⟩ := db_table h hd
      refine Nat.le_trans (flat_len _ 4 _ fun r hr => ?_) (by omega)
      simp only [flawR, List.length_append]
      have := flawIf_len
      refine Nat.le_trans (Nat.add_le_add (Nat.add_le_add (Nat.add_le_add (flawIf_len _ _ _ _) (flawIf_len _ _ _ _)) (flawIf_len _ _ _ _)) (flawIf_len _ _ _ _)) (by decide)
    · exact Nat.zero_le _
  · exact Nat.zero_le _
end Go.Proofs.YtjeilgogjoidjaaGreat
