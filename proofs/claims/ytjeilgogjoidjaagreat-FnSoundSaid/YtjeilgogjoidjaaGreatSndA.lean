import Derived.Test.YtjeilgogjoidjaaGreatBundle
import Derived.Test.YtjeilgogjoidjaaGreatFlaws
namespace Go.Proofs.YtjeilgogjoidjaaGreat
open Go.RowKit
set_option linter.unusedVariables false
set_option linter.unusedSimpArgs false
/-! ### OwnO -/
def OwnO {α : Type} (k : Kd α) (E : TypeId) (W : World) (M : Nat) (w : World) (A : Option Addr) (n c : Nat) (xs : List α) : Prop :=
  M ≤ W.heap.size ∧ ∃ rows, w.ownsRow W.heap.size E k.n (.slice A n c) n rows ∧ Flat k w (· < M) rows xs ∧ xs.length = n ∧ Grow W w
section
variable {α : Type} {k : Kd α} {E : TypeId} {M : Nat} {W w w' : World} {A : Option Addr} {n c : Nat} {xs : List α}
theorem OwnO.grows (h : OwnO k E W M w A n c xs) : Grow W w := h.2.choose_spec.2.2.2
theorem OwnO.len (h : OwnO k E W M w A n c xs) : xs.length = n := h.2.choose_spec.2.2.1
theorem OwnO.isSl (h : OwnO k E W M w A n c xs) : IsSl k w (· < w.heap.size) A n c xs := by
  obtain ⟨hM, rows, h1, h2, h3, h4⟩ := h
  exact own_isSl h1 h2 h3 (fun b hb => Nat.lt_of_lt_of_le hb (Nat.le_trans hM h4.size)) (fun b hB hlt hfr => hlt)
theorem OwnO.isSl2 (h : OwnO k E W M w A n c xs) : IsSl k w (fun b => b < M ∨ W.heap.size ≤ b ∧ b < w.heap.size) A n c xs := by
  obtain ⟨hM, rows, h1, h2, h3, h4⟩ := h
  exact own_isSl h1 h2 h3 (fun b hb => .inl hb) (fun b hB hlt hfr => .inr ⟨hB, hlt⟩)
theorem OwnO.le (h : OwnO k E W M w A n c xs) : n ≤ c ∧ c ≤ maxLen := ⟨h.isSl.2.1, h.isSl.2.2.1⟩
theorem OwnO.grow (h : OwnO k E W M w A n c xs) (hg : Grow w w') : OwnO k E W M w' A n c xs := by
  obtain ⟨hM, rows, ⟨hr, h1⟩, h2, h3, h4⟩ := h
  refine ⟨hM, rows, ⟨hr, ?_⟩, Flat.mono (fun _ h => h) (fun b hb => hg.block (Nat.lt_of_lt_of_le hb (Nat.le_trans hM h4.size))) h2, h3, h4.trans hg⟩
  rcases h1 with h0 | ⟨g, cap', cur, hv, hB, hh, hrest⟩
  · exact .inl h0
  · refine .inr ⟨g, cap', cur, hv, hB, ?_, hrest⟩
    have hlt : g < w.heap.size := by
      rcases Nat.lt_or_ge g w.heap.size with h' | h'
      · exact h'
      · simp [Array.getElem?_eq_none h'] at hh
    rw [hg.block hlt]; exact hh
theorem OwnO.nil (hM : M ≤ W.heap.size) (hg : Grow W w) : OwnO k E W M w none 0 0 [] := ⟨hM, [], ⟨by simp, .inl ⟨rfl, rfl⟩⟩, rfl, rfl, hg⟩
theorem OwnO.made (hM : M ≤ W.heap.size) (hg : Grow W w) : OwnO k E W M (w.alloc (.cells #[] E)) (some ⟨w.heap.size, 0, none⟩) 0 0 [] :=
  ⟨hM, [], ⟨by simp, .inr ⟨w.heap.size, 0, #[], rfl, hg.size, new_block _ _, Nat.le_refl _, Nat.zero_le _, by simp, by simp⟩⟩, rfl, rfl, hg.alloc _⟩
end
/-- What an append takes: its elements lead to S. -/
def SrcO {α : Type} (k : Kd α) (w : World) (S : Nat → Prop) (B : Option Addr) (m : Nat) (ys : List α) : Prop :=
  ys.length = m ∧ (0 < m → ∃ b off, B = some ⟨b, off, none⟩ ∧ ∀ i (h : i < ys.length), ∃ cs, (∀ j, j < k.n → w.cell? ⟨b, off + (i * k.n + j), none⟩ = cs[j]?) ∧ k.rd w S cs ys[i])
theorem IsSl.srcO {α : Type} {k : Kd α} {w : World} {S : Nat → Prop} {B : Option Addr} {m cb : Nat} {ys : List α} (h : IsSl k w S B m cb ys) : SrcO k w S B m ys :=
  ⟨h.1, fun h0 => by
    obtain ⟨b, off, hA, _, hx⟩ := h.2.2.2 h0
    exact ⟨b, off, hA, hx⟩⟩
theorem srcO_one {α : Type} {k : Kd α} {w : World} {S : Nat → Prop} {b : Nat} {cs : Array Value} {T : TypeId} {fr : Nat × Nat} {x : α} (h : w.heap[b]? = some (.cells cs T fr)) (hr : k.rd w S cs.toList x) : SrcO k w S (some ⟨b, 0, none⟩) 1 [x] :=
  ⟨rfl, fun _ => ⟨b, 0, rfl, fun i hi => by
    obtain rfl : i = 0 := by simp at hi; omega
    exact ⟨cs.toList, fun j hj => by rw [cell_of h]; simp, hr⟩⟩⟩
structure AppedO {α : Type} (k : Kd α) (E : TypeId) (W : World) (M : Nat) (w : World) (p : Option Nat) (q : Nat) (zs : List α) (A' : Option Addr) (c' : Nat) (w' : World) : Prop where
  own : OwnO k E W M w' A' q c' zs
  size : w.heap.size ≤ w'.heap.size
  grown : ∀ X : World, Grow X w → (∀ q, p = some q → X.heap.size ≤ q) → Grow X w'
  block : ∀ b, b < w.heap.size → p ≠ some b → w'.heap[b]? = w.heap[b]?
  place : blockOf A' = p ∨ ∃ g, blockOf A' = some g ∧ w.heap.size ≤ g
theorem AppedO.apart {α : Type} {k : Kd α} {E : TypeId} {M : Nat} {W w : World} {p : Option Nat} {q : Nat} {zs : List α} {A' : Option Addr} {c' : Nat} {w' : World} (h : AppedO k E W M w p q zs A' c' w') {b : Nat} (hb : b < w.heap.size) (hp : p ≠ some b) :
    b < w'.heap.size ∧ blockOf A' ≠ some b ∧ w'.heap[b]? = w.heap[b]? :=
  ⟨Nat.lt_of_lt_of_le hb h.size, fun e => by
    rcases h.place with h1 | ⟨g, h1, h2⟩
    · exact hp (h1 ▸ e)
    · rw [h1] at e; cases e; omega, h.block b hb hp⟩
theorem run_appO {P : Program} {α : Type} {k : Kd α} (ho : Ones k) {t E ty : TypeId} {bytes : Nat} (he : ElemOk P t E k.n bytes) {M : Nat} {W w : World} {A : Option Addr} {n c : Nat} {xs : List α} (own : OwnO k E W M w A n c xs)
    {B : Option Addr} {m cb : Nat} {ys : List α} (src : SrcO k w (· < M) B m ys) (h63 : n + m ≤ maxLen) (hb : (n + m) * bytes ≤ 140737488355328) :
    ∃ A' c' w', (Builtin.append_ #[t, t] ty #[.slice A n c, .slice B m cb]).run P w = .ok (.slice A' (n + m) c') w' ∧ AppedO k E W M w (blockOf A) (n + m) (xs ++ ys) A' c' w' := by
  obtain ⟨i, z, ht, hi, hz, hs, hby, hzs, h0⟩ := he
  obtain ⟨h1, h4⟩ := src
  rcases Nat.eq_zero_or_pos m with hm | hm
  · subst hm
    obtain rfl : ys = [] := List.eq_nil_of_length_eq_zero h1
    have hle := own.le
    have hsrc : Src P i.size t (.slice B 0 cb) 0 [] w := by
      cases B with
      | none => exact Src.ofNil w ht cb
      | some ad => exact Src.ofSlice w ht ad 0 cb [] (by simp) (fun j u h => by simp at h) (fun u h => by cases h)
    refine ⟨A, c, w, run_append_nothing w t t ty E i ht hi A n c hle.1 _ hsrc, by rw [List.append_nil]; exact own, Nat.le_refl _, fun _ h _ => h, fun _ _ _ => rfl, .inl rfl⟩
  · obtain ⟨b, off, rfl, hx⟩ := h4 hm
    obtain ⟨news, hf, hn⟩ := flat_cells ys off hx
    obtain ⟨hM, rows, o1, o2, o3, o4⟩ := own
    obtain ⟨g, cap, w', hr, q1, q2, q3, q4⟩ := run_append_lies (P := P) w t ty W.heap.size E i z k.n bytes ht hi hz hs hby hzs h0 (.slice A n c) n rows o1 ⟨b, off, none⟩ m cb news (by rw [hf.length, h1]) (fun j u hj => by
      have := hn j u hj
      rw [← this]
      unfold Addr.add; split <;> simp_all) (flat_ones ho hf) hm h63 hb o4.size w.heap.size rfl
    have hbl : (Value.slice A n c).ownBlock = blockOf A := by cases A <;> rfl
    rw [hbl] at q2
    have hA : ∀ q, blockOf A = some q → W.heap.size ≤ q := fun q hq => by
      rcases A with _ | a
      · cases hq
      · simp only [blockOf, Option.some.injEq] at hq
        subst hq
        obtain ⟨_, ⟨h0', _⟩ | ⟨g', cap', cur, hv, hB, _⟩⟩ := o1
        · cases h0'
        · simp only [Value.slice.injEq, Option.some.injEq] at hv
          rw [hv.1]; exact hB
    have hG : ∀ X : World, Grow X w → (∀ q, blockOf A = some q → X.heap.size ≤ q) → Grow X w' := fun X hX hq => Below.grown hX q2 hX.size hq
    have hGW := hG W o4 hA
    have hfl : Flat k w (· < M) (rows ++ news) (xs ++ ys) := flat_append o2 hf
    exact ⟨some ⟨g, 0, none⟩, cap, w', hr, ⟨hM, _, q1, hfl.mono (fun _ h => h) (fun b hb => (hGW.block (Nat.lt_of_lt_of_le hb hM)).trans (o4.block (Nat.lt_of_lt_of_le hb hM)).symm), by rw [List.length_append, o3, h1], hGW⟩, q2.4, hG, fun b' hb' hne => q2.5 b' hb' (fun e => hne e.symm), by
      rcases q3 with q3 | q3
      · exact .inl (by rw [← hbl]; exact q3.symm)
      · exact .inr ⟨g, rfl, Nat.le_of_eq q3.symm⟩⟩
section
variable {P : Program} {α : Type} {k : Kd α} {t E : TypeId} {bytes M : Nat} {W w : World} {A B : Option Addr} {n c m cb : Nat} {xs ys : List α}
theorem wp_appO (ho : Ones k) (he : ElemOk P t E k.n bytes) {o : Oper} {a : Act} {K : Act → World → Prop} {Q : Exit → Act → World → Prop} (s x : Operand)
    (hop : o.op = .call { callee := .builtin .append, args := #[s, x], argTypes := #[t, t] }) (hs : a.eval s = .slice A n c) (own : OwnO k E W M w A n c xs) (hx : a.eval x = .slice B m cb) (src : SrcO k w (· < M) B m ys) {q : Nat} (hq : n + m = q) (h63 : q ≤ maxLen) (hb : q * bytes ≤ 140737488355328)
    (h : ∀ A' c' w', AppedO k E W M w (blockOf A) q (xs ++ ys) A' c' w' → K (a.put o.dst (.slice A' q c')) w') : o.wp P a w K Q := by
  subst hq
  obtain ⟨A', c', w', hr, hq⟩ := run_appO (P := P) (ty := o.type) (cb := cb) ho he own src h63 hb
  unfold Oper.wp execOp
  simp only [hop, resolve, invoke, builtin, Sem.run_bind, Sem.run_pure, Result.andThen_ok, List.map_toArray, List.map_cons, List.map_nil, hs, hx, hr]
  exact h A' c' w' hq
theorem wpList_appO (ho : Ones k) (he : ElemOk P t E k.n bytes) {ops : Array Oper} {rest : List Oper} {o : Oper} {a : Act} {Q : Exit → Act → World → Prop} (hgd : o.guard = none) (s x : Operand)
    (hop : o.op = .call { callee := .builtin .append, args := #[s, x], argTypes := #[t, t] }) (hs : a.eval s = .slice A n c) (own : OwnO k E W M w A n c xs) (hx : a.eval x = .slice B m cb) (src : SrcO k w (· < M) B m ys) {q : Nat} (hq : n + m = q) (h63 : q ≤ maxLen) (hb : q * bytes ≤ 140737488355328)
    (h : ∀ A' c' w', AppedO k E W M w (blockOf A) q (xs ++ ys) A' c' w' → wpList P ops Q rest (a.put o.dst (.slice A' q c')) w') : wpList P ops Q (o :: rest) a w :=
  wpList_plain hgd fun _ hK => wp_appO ho he s x hop hs own hx src hq h63 hb fun A' c' w' hap => hK _ _ (h A' c' w' hap)
end
theorem OwnO.baseB {α : Type} {k : Kd α} {E : TypeId} {M : Nat} {W w : World} {A : Option Addr} {n c : Nat} {xs : List α} (h : OwnO k E W M w A n c xs) : ∀ q, blockOf A = some q → W.heap.size ≤ q ∧ q < w.heap.size := fun q hq => by
  obtain ⟨hM, rows, ⟨hr, ⟨h0, _⟩ | ⟨g, cap', cur, hv, hB, hh, hle, hmx, hs, ht⟩⟩, h2, h3, h4⟩ := h
  · simp only [Value.slice.injEq] at h0
    rw [h0.1] at hq; cases hq
  · simp only [Value.slice.injEq] at hv
    rw [hv.1] at hq
    cases hq
    refine ⟨hB, ?_⟩
    rcases Nat.lt_or_ge g w.heap.size with h' | h'
    · exact h'
    · simp [Array.getElem?_eq_none h'] at hh
theorem OwnO.there {α : Type} {k : Kd α} {E : TypeId} {M : Nat} {W w : World} {A : Option Addr} {n c : Nat} {xs : List α} (h : OwnO k E W M w A n c xs) (hn : 0 < n) : ∃ p, A = some ⟨p, 0, none⟩ ∧ W.heap.size ≤ p ∧ p < w.heap.size ∧ ∀ o, w.frozen? ⟨p, o, none⟩ = false := by
  have hb := h.baseB
  obtain ⟨hM, rows, ⟨hr, ⟨h0, h00⟩ | ⟨g, cap', cur, hv, hB, hh, hle, hmx, hs, ht⟩⟩, h2, h3, h4⟩ := h
  · omega
  · simp only [Value.slice.injEq] at hv
    obtain ⟨rfl, _⟩ := hv
    exact ⟨g, rfl, hB, (hb g rfl).2, (free_of hh).2⟩
/-- A store into an element. -/
theorem OwnO.put1 {α : Type} {k : Kd α} {E : TypeId} {M : Nat} {W w : World} {p n c i j : Nat} {xs : List α} {x y : α} {v : Value} (h : OwnO k E W M w (some ⟨p, 0, none⟩) n c xs) (hx : xs[i]? = some x) (hj : j < k.n)
    (hy : ∀ cs, k.rd w (· < M) cs x → k.rd w (· < M) (cs.set j v) y) : OwnO k E W M (w.setCell ⟨p, i * k.n + j, none⟩ v) (some ⟨p, 0, none⟩) n c (xs.set i y) := by
  obtain ⟨hM, rows, ⟨hr, h0 | ⟨g, cap', cur, hv, hB, hh, hle, hmx, hs, ht⟩⟩, h2, h3, h4⟩ := h
  · cases h0.1
  · simp only [Value.slice.injEq, Option.some.injEq, Addr.mk.injEq, and_true, true_and] at hv
    obtain ⟨rfl, rfl⟩ := hv
    have hG : Grow W (w.setCell ⟨p, i * k.n + j, none⟩ v) := h4.set hB v
    refine ⟨hM, rows.set (i * k.n + j) v, ⟨by rw [List.length_set]; exact hr, .inr ⟨p, c, _, rfl, hB, put_own hh _ v, hle, hmx, by simp [hs], ?_⟩⟩, (flat_set hj v h2 hx hy).mono (fun b hb => hb) (fun b hb => (hG.block (Nat.lt_of_lt_of_le hb hM)).trans (h4.block (Nat.lt_of_lt_of_le hb hM)).symm), by rw [List.length_set]; exact h3, hG⟩
    rw [← ht, Array.toList_setIfInBounds, List.take_set]
/-! ### LawPut -/
/-- The id of the next row. -/
def nextV (rows : List Row) : Int := match rows.getLast? with | none => 1 | some r => r.id + 1
def putStep (x : Row) (a : List Row × Bool) (r : Row) : List Row × Bool :=
  ((if a.2 = false ∧ x.id ≤ r.id then a.1 ++ [x] else a.1) ++ (if r.id = x.id then [] else [r]), a.2 || decide (x.id ≤ r.id))
/-- With another row of that id. -/
def putV (rows : List Row) (x : Row) : List Row := if (rows.foldl (putStep x) ([], false)).2 = true then (rows.foldl (putStep x) ([], false)).1 else (rows.foldl (putStep x) ([], false)).1 ++ [x]
theorem put_fold (x : Row) : ∀ (rows acc : List Row), (∀ r ∈ rows, r.id < x.id) → rows.foldl (putStep x) (acc, false) = (acc ++ rows, false)
  | [], acc, _ => by simp
  | r :: rs, acc, h => by
    have h0 := h r (by simp)
    rw [List.foldl_cons]
    have : putStep x (acc, false) r = (acc ++ [r], false) := by
      unfold putStep
      dsimp only
      rw [if_neg (by omega), if_neg (by omega), decide_eq_false (by omega)]
      rfl
    rw [this, put_fold x rs _ (fun y hy => h y (by simp [hy]))]
    simp
theorem put_next {rows : List Row} {x : Row} (h : ∀ r ∈ rows, r.id < x.id) : putV rows x = rows ++ [x] := by
  unfold putV
  rw [put_fold x rows [] h]
  simp
theorem rows_next {cols : List Col} {rows : List Row} (h : rowsB cols rows = true) : ∀ r ∈ rows, r.id < nextV rows := by
  intro r hr
  have hp := rows_pw h
  unfold nextV
  rcases List.eq_nil_or_concat rows with rfl | ⟨l, a, rfl⟩
  · cases hr
  · simp only [List.getLast?_append, List.getLast?_singleton, Option.some_or, List.concat_eq_append] at hr ⊢
    rw [List.concat_eq_append, List.pairwise_append] at hp
    rcases List.mem_append.mp hr with h1 | h1
    · have := hp.2.2 r h1 a (by simp); omega
    · simp only [List.mem_singleton] at h1; subst h1; omega
theorem next_pos {cols : List Col} {rows : List Row} (h : rowsB cols rows = true) : 1 ≤ nextV rows ∧ nextV rows ≤ 1000000001 := by
  unfold nextV
  cases hl : rows.getLast? with
  | none => exact ⟨by decide, by decide⟩
  | some r =>
    obtain ⟨i, hi, rfl⟩ := List.getElem_of_mem (List.mem_of_getLast? hl)
    have := rows_id h (List.getElem?_eq_getElem hi)
    dsimp only
    omega
theorem rows_more {cols : List Col} {rows : List Row} {vals : List Val} (h : rowsB cols rows = true) (hn : rows.length ≠ 60) (hid : nextV rows ≤ 1000000000) (hf : fitB cols vals = true) : rowsB cols (rows ++ [⟨nextV rows, vals⟩]) = true := by
  have hnx := rows_next h
  have hps := (next_pos h).1
  simp only [rowsB, Bool.and_eq_true, decide_eq_true_eq, List.length_append, List.length_cons, List.length_nil] at h ⊢
  refine ⟨by omega, ?_⟩
  simp only [allIx, List.all_eq_true, List.mem_range]
  intro i hi
  rw [List.length_append] at hi
  by_cases hlt : i < rows.length
  · have h2 := allIx_at h.2 (List.getElem?_eq_getElem hlt)
    rw [List.getElem?_append_left hlt, List.getElem?_eq_getElem hlt]
    dsimp only
    simp only [rowP, Bool.and_eq_true] at h2 ⊢
    refine ⟨⟨h2.1.1, ?_⟩, h2.2⟩
    by_cases h0 : 0 < i
    · have : prevId (rows ++ [⟨nextV rows, vals⟩]) i = prevId rows i := by
        unfold prevId
        rw [List.getElem?_append_left (by omega)]
      rw [this]; exact h2.1.2
    · simp [h0]
  · obtain rfl : i = rows.length := by simp only [List.length_cons, List.length_nil] at hi; omega
    rw [List.getElem?_append_right (Nat.le_refl _), Nat.sub_self, List.getElem?_cons_zero]
    dsimp only
    simp only [rowP, Bool.and_eq_true]
    refine ⟨⟨by simp [inB]; exact ⟨hps, hid⟩, ?_⟩, hf⟩
    by_cases h0 : 0 < rows.length
    · have hp : prevId (rows ++ [⟨nextV rows, vals⟩]) rows.length = (rows[rows.length - 1]'(by omega)).id := by
        unfold prevId
        rw [List.getElem?_append_left (by omega), List.getElem?_eq_getElem (by omega)]
      have := hnx _ (List.getElem_mem (show rows.length - 1 < rows.length by omega))
      rw [hp]
      simp
      exact .inr this
    · simp [h0]
theorem put_ok {s : List Table} {db : List Data} (h : dbOkB s db = true) {k : Nat} {t : Table} {d : Data} {vals : List Val} (hd : db[k]? = some d) (ht : s[k]? = some t) (hf : fitB t.cols vals = true) (hn : d.rows.length ≠ 60) (hid : nextV d.rows ≤ 1000000000) :
    putV d.rows ⟨nextV d.rows, vals⟩ = d.rows ++ [⟨nextV d.rows, vals⟩] ∧ dbOkB s (db.set k ⟨putV d.rows ⟨nextV d.rows, vals⟩⟩) = true := by
  have hk := (List.getElem?_eq_some_iff.mp hd).1
  obtain ⟨hT, hR⟩ := tab_in h hd ht
  have hp := put_next (x := ⟨nextV d.rows, vals⟩) (rows_next hR)
  refine ⟨hp, ?_⟩
  rw [hp]
  simp only [dbOkB, Bool.and_eq_true] at h ⊢
  refine ⟨h.1, ?_⟩
  have h2 := h.2
  simp only [dbB, Bool.and_eq_true, decide_eq_true_eq] at h2 ⊢
  refine ⟨by rw [List.length_set]; exact h2.1, ?_⟩
  simp only [allIx, List.all_eq_true, List.mem_range]
  intro j hj
  rw [List.length_set] at hj
  rw [List.getElem?_set]
  by_cases hkj : k = j
  · subst hkj
    rw [if_pos rfl, if_pos hj]
    dsimp only [dataP]
    rw [ht]
    exact rows_more hR hn hid hf
  · rw [if_neg hkj, List.getElem?_eq_getElem hj]
    exact allIx_at h2.2 (List.getElem?_eq_getElem hj)
/-! ### Six -/
theorem elem_valS : ElemOk Tryz.prog 45 50 3 32 := elem_val
theorem l1CopyVals_any {A : Option Addr} {n c : Nat} {vals : List Val} (w : World) (h : IsSl Kd.val w (· < w.heap.size) A n c vals) (h8 : n ≤ 1048576) :
    Calls Tryz.prog 71 #[.slice A n c] w (fun e w' => ∃ (B : Option Addr) (d : Nat), e = .returned (.slice B n d) ∧ OwnF Kd.val 50 w w' B n d vals) := by
  go_enter Tryz.func71, Tryz.ntmps71
  go_wp2_with (at_builtin; refine wpList_app plain_val ones_val elem_valS rfl (.tmp 3) (.tmp 4) (by rfl) (by rfl) (OwnF.made (Grow.refl w)) (by rfl) (h.grow ((Grow.refl w).alloc _)) (q := n) (by omega) (by unfold maxLen; omega) (by omega) (fun A3 c3 w4 ap => ?_))
  go_ret
  exact ⟨A3, c3, rfl, by simpa using ap.own⟩
theorem l6Next_any {A : Option Addr} {n c : Nat} {rows : List Row} (w : World) (h : IsSl Kd.row w (· < w.heap.size) A n c rows) (h1 : n ≤ 60) (hid : ∀ r ∈ rows, 1 ≤ r.id ∧ r.id ≤ 1000000000) :
    Calls Tryz.prog 119 #[.agg #[.slice A n c]] w (Ret w (.int .i64 (nextV rows))) := by
  go_enter Tryz.func119, Tryz.ntmps119
  by_cases h0 : n = 0
  · subst h0
    obtain rfl : rows = [] := List.eq_nil_of_length_eq_zero h.1
    go_wp2
    go_ret
    exact ⟨rfl, (by repeat (with_reducible first | exact Grow.refl _ | assumption | refine Grow.drew ?_ | refine Grow.alloc ?_ _ | refine Grow.set ?_ (by first | exact Nat.le_refl _ | (simp; done) | (simp; omega) | omega) _ | exact And.left (by assumption) | refine Grow.trans ?_ (by assumption)))⟩
  · obtain ⟨m, rfl⟩ : ∃ m, n = m + 1 := ⟨n - 1, by omega⟩
    obtain ⟨b, off, x, Av, Lv, Cv, rfl, hx, hSb, hb, c0, c1, hv, hrd⟩ := row_at h (i := m) (by omega)
    have hnx : nextV rows = x.id + 1 := by
      unfold nextV
      have hl := h.1
      have : rows.getLast? = some x := by rw [List.getLast?_eq_getElem?, hl]; exact hx.out
      rw [this]
    have hix := hid x (List.mem_of_getElem? hx.out)
    have i0 : (0 : Int) ≤ (m : Int) := Int.natCast_nonneg m
    have i1 : (m : Int) < ((m + 1 : Nat) : Int) := by omega
    have i2 : ((m + 1 : Nat) : Int) - 1 = (m : Int) := by omega
    have i3 : (((m + 1 : Nat) : Int) == 0) = false := by simp; omega
    have i4 : IntKind.i64.wrap (((m + 1 : Nat) : Int) - 1) = (m : Int) := by rw [i2]; exact IntWalk.i64_in _ (by omega)
    have i5 : IntKind.i64.wrap (x.id + 1) = x.id + 1 := IntWalk.i64_in _ (by omega)
    rw [hnx]
    clear hx hv hrd hid hnx
    go_wp2
    go_ret
    exact ⟨rfl, (by repeat (with_reducible first | exact Grow.refl _ | assumption | refine Grow.drew ?_ | refine Grow.alloc ?_ _ | refine Grow.set ?_ (by first | exact Nat.le_refl _ | (simp; done) | (simp; omega) | omega) _ | exact And.left (by assumption) | refine Grow.trans ?_ (by assumption)))⟩
theorem l6Able_any {cs : List Value} {t : Table} {B : Option Addr} {lb cb : Nat} {vals : List Val} {a b : Bool} {r : Int} (ha : noNullB t.cols vals = a) (hb : checkedB t vals = b) (hr : (if a = false then (2 : Int) else if b = false then 3 else 0) = r) (w : World) (h : Kd.table.rd w (· < w.heap.size) cs t) (hv : IsSl Kd.val w (· < w.heap.size) B lb cb vals) (hl : vals.length = t.cols.length) (hok : okVals vals = true) (hex : ∀ c ∈ t.checks, exprL vals.length c.expr = true) :
    Calls Tryz.prog 118 #[.agg cs.toArray, .slice B lb cb] w (Ret w (.int .i64 r)) := by
  have HT := Lib.hid h
  have HRR := Lib.hid hr
  clear hr
  obtain ⟨Acols, Lcols, Ccols, Akey, Lkey, Ckey, Auniques, Luniques, Cuniques, Achecks, Lchecks, Cchecks, Afks, Lfks, Cfks, rfl, zname, scols, skey, suniques, schecks, sfks⟩ := h
  clear zname scols skey suniques schecks sfks
  go_enter Tryz.func118, Tryz.ntmps118
  go_wp2_with fail
  generalize hW : World.alloc w _ = W
  obtain ⟨gW, sW, kW⟩ := boxed1 hW
  clear hW
  refine (l4Nulls_eq ha W (Kd.grow Kd.table HT.out gW) (hv.grow gW) hl).mono ?_
  rintro e w1 ⟨rfl, g1⟩
  have k1 : ∀ o, w1.cell? ⟨w.heap.size, o, none⟩ = _ := fun o => (g1.same _ o sW).trans (kW o)
  have s1 := Nat.lt_of_lt_of_le sW g1.size
  have G1 := gW.trans g1
  clear kW
  cases a with
  | false =>
    obtain rfl : r = 2 := HRR.out.symm
    go_wp2
    go_ret
    exact ⟨rfl, G1⟩
  | true =>
    go_wp2_with fail
    refine (l4Checks_eq hb w1 (Kd.grow Kd.table HT.out G1) (hv.grow G1) hok hex).mono ?_
    rintro e w2 ⟨rfl, g2⟩
    cases b with
    | false =>
      obtain rfl : r = 3 := HRR.out.symm
      go_wp2
      go_ret
      exact ⟨rfl, G1.trans g2⟩
    | true =>
      obtain rfl : r = 0 := HRR.out.symm
      go_wp2
      go_ret
      exact ⟨rfl, G1.trans g2⟩
theorem ones_dataO : Ones Kd.data := fun w S cs a h u hu => by
  obtain ⟨_, _, _, rfl, _⟩ := h
  simp only [List.mem_cons, List.not_mem_nil, or_false] at hu
  subst hu; rfl
theorem elem_dataO : ElemOk Tryz.prog 25 39 1 24 := elemOk_of Tryz.underlying25 info_data rfl (by decide)
set_option maxHeartbeats 2000000 in
theorem l4With_any {A R : Option Addr} {n c l d k : Nat} {db : List Data} {rows : List Row} {z : Int} (hz : z = (k : Int)) (w : World) (h : IsSl Kd.data w (· < w.heap.size) A n c db) (hr : IsSl Kd.row w (· < w.heap.size) R l d rows) (hk : k < n) (hn : n ≤ 5) :
    Calls Tryz.prog 102 #[.slice A n c, .int .i64 z, .agg #[.slice R l d]] w (fun e w' => ∃ (B : Option Addr) (m : Nat), e = .returned (.slice B n m) ∧ IsSl Kd.data w' (· < w'.heap.size) B n m (db.set k ⟨rows⟩) ∧ Grow w w') := by
  subst hz
  have HL := Lib.hid h.1
  have HR := Lib.hid hr
  have HD := Lib.hid h
  have i0 : (0 : Int) ≤ (k : Int) := Int.natCast_nonneg k
  have i1 : (k : Int) < (n : Int) := Int.ofNat_lt.mpr hk
  clear hr h
  go_enter Tryz.func102, Tryz.ntmps102
  go_upto_region 1 with (fail)
  generalize hW : World.alloc w _ = W
  obtain ⟨gW, sW, kW⟩ := boxed1 hW
  clear hW
  go_upto_region 2 with (at_builtin; refine wpList_appO ones_dataO elem_dataO rfl (.tmp 8) (.tmp 9) (by rfl) (by rfl) (OwnO.made (Nat.le_refl W.heap.size) (Grow.refl W)) (by rfl) (HD.out.mono (S' := (· < W.heap.size)) (fun b hb => Nat.lt_of_lt_of_le hb gW.size) (fun b hb => (gW.alloc _).block hb)).srcO (q := n) (by omega) (by unfold maxLen; omega) (by omega) (fun A3 c3 w4 ap => ?_))
  have own := ap.own
  rw [List.nil_append] at own
  obtain ⟨p, rfl, hp, hpl, hpf⟩ := own.there (by omega)
  have hbl : w.heap.size < (W.alloc (.cells #[] 39)).heap.size := Nat.lt_of_lt_of_le sW ((Grow.refl W).alloc _).size
  have hne : blockOf (some (⟨W.heap.size, 0, none⟩ : Addr)) ≠ some w.heap.size := fun e => by simp only [blockOf, Option.some.injEq] at e; omega
  have kb : ∀ o, w4.cell? ⟨w.heap.size, o, none⟩ = _ := fun o => (World.cell?_of_block (a := ⟨w.heap.size, o, none⟩) (ap.block _ hbl hne)).trans (((Grow.refl W).alloc _).same _ o sW |>.trans (kW o))
  have sb := Nat.lt_of_lt_of_le hbl ap.size
  have hlen := own.len
  obtain ⟨b', off', x, Ar, Lr, Cr, he, hx, _, hb', c0, _⟩ := data_at own.isSl hk
  simp only [Option.some.injEq, Addr.mk.injEq, and_true] at he
  obtain ⟨rfl, rfl⟩ := he
  have own5 := own.put1 (i := k) (j := 0) hx.out (by decide) (v := .slice R l d) (y := ⟨rows⟩) (fun cs hr => by
    obtain ⟨_, _, _, rfl, _⟩ := hr
    exact ⟨R, l, d, rfl, HR.out.mono (fun b hb => Nat.lt_of_lt_of_le hb gW.size) (fun b hb => (gW.trans own.grows).block hb)⟩)
  rw [show k * Kd.data.n + 0 = k from Nat.mul_one k] at own5
  have H5 := Lib.hid own5
  clear own5 own hx kW
  rw [Nat.zero_add] at c0
  go_wp2
  go_ret
  exact ⟨_, c3, rfl, H5.out.isSl, gW.trans H5.out.grows⟩
theorem ones_rowO : Ones Kd.row := fun w S cs a h u hu => by
  obtain ⟨_, _, _, rfl, _⟩ := h
  simp only [List.mem_cons, List.not_mem_nil, or_false] at hu
  rcases hu with rfl | rfl <;> rfl
theorem elem_rowO : ElemOk Tryz.prog 37 48 2 32 := elemOk_of Tryz.underlying37 info_row rfl (by decide)
theorem boxed3B {w W : World} {c d f : Array Value} {t u v : TypeId} (hW : ((w.alloc (.cells c t)).alloc (.cells d u)).alloc (.cells f v) = W) :
    Grow w W ∧ w.heap.size + 1 + 1 < W.heap.size ∧ W.heap[w.heap.size]? = some (.cells c t (0, 0)) ∧ W.heap[w.heap.size + 1]? = some (.cells d u (0, 0)) ∧ W.heap[w.heap.size + 1 + 1]? = some (.cells f v (0, 0)) := by
  obtain ⟨g, a, b, c, d, e, f⟩ := boxed3 hW
  exact ⟨g, c, d, e, f⟩
set_option maxHeartbeats 4000000 in
set_option maxRecDepth 20000 in
theorem l4Put_next {A V : Option Addr} {n c lv cv : Nat} {rows : List Row} {x : Row} (w : World) (h : IsSl Kd.row w (· < w.heap.size) A n c rows) (hv : IsSl Kd.val w (· < w.heap.size) V lv cv x.vals) (hn : n ≤ 60) (hid : ∀ r ∈ rows, r.id < x.id) :
    Calls Tryz.prog 121 #[.agg #[.slice A n c], .agg #[.int .i64 x.id, .slice V lv cv]] w (fun e w' => ∃ (B : Option Addr) (m : Nat), e = .returned (.agg #[.slice B (n + 1) m]) ∧ IsSl Kd.row w' (· < w'.heap.size) B (n + 1) m (rows ++ [x]) ∧ Grow w w') := by
  have HL := Lib.hid h.1
  have HV := Lib.hid hv
  have HD := Lib.hid h
  have HI := Lib.hid hid
  clear hv h hid
  go_enter Tryz.func121, Tryz.ntmps121
  go_upto_region 1 with (fail)
  generalize hW : World.alloc (World.alloc (World.alloc w _) _) _ = W
  obtain ⟨gW, sW, b0, b1, b2⟩ := boxed3B hW
  clear hW
  have own0 : OwnO Kd.row 48 W w.heap.size (W.alloc (.cells #[] 48)) (some ⟨W.heap.size, 0, none⟩) 0 0 [] := OwnO.made gW.size (Grow.refl W)
  have HB := Lib.hid (show W.heap[w.heap.size]? = some (.cells #[.slice A n c] _ (0, 0)) ∧ W.heap[w.heap.size + 1]? = some (.cells #[.int .i64 x.id, .slice V lv cv] _ (0, 0)) ∧ W.heap[w.heap.size + 1 + 1]? = some (.cells #[.slice none 0 0] _ (0, 0)) from ⟨b0, b1, b2⟩)
  have boxes : ∀ X : World, Grow W X → w.heap.size < X.heap.size ∧ w.heap.size + 1 < X.heap.size ∧ w.heap.size + 1 + 1 < X.heap.size ∧ X.cell? ⟨w.heap.size, 0, none⟩ = some (.slice A n c) ∧ X.cell? ⟨w.heap.size + 1, 0, none⟩ = some (.int .i64 x.id) ∧ X.cell? ⟨w.heap.size + 1, 1, none⟩ = some (.slice V lv cv) ∧ X.cell? ⟨w.heap.size + 1 + 1, 0, none⟩ = some (.slice none 0 0) ∧ ∀ o, X.frozen? ⟨w.heap.size + 1 + 1, o, none⟩ = false := fun X hX => by
    have e0 := (hX.block (by omega : w.heap.size < W.heap.size)).trans HB.out.1
    have e1 := (hX.block (by omega : w.heap.size + 1 < W.heap.size)).trans HB.out.2.1
    have e2 := (hX.block sW).trans HB.out.2.2
    have := hX.size
    exact ⟨by omega, by omega, by omega, (free_of e0).1 0, (free_of e1).1 0, (free_of e1).1 1, (free_of e2).1 0, (free_of e2).2⟩
  have HX := Lib.hid boxes
  have g1 : Grow W (W.alloc (.cells #[] 48)) := (Grow.refl W).alloc _
  clear b0 b1 b2 boxes
  go_upto_region 2 with (fail)
  generalize hW1 : World.alloc W _ = W1 at own0 g1 ⊢
  clear hW1
  go_wp2_with fail
  go_loopw [5, 6, 7] (fun sv dv iv wr => ∃ (k c' : Nat) (R : Option Addr), k ≤ n ∧ iv = .int .i64 k ∧ dv = .bool false ∧ sv = .slice R k c' ∧ OwnO Kd.row 48 W w.heap.size wr R k c' (rows.take k)) (fun _ _ iv _ => n - (intOf iv).toNat)
  case atStart => exact ⟨0, 0, _, Nat.zero_le _, rfl, rfl, rfl, own0⟩
  case round =>
    obtain ⟨k, c', R, hk, rfl, rfl, rfl, own⟩ := hrel
    have hG := own.grows
    obtain ⟨s0, s1, s2, x0, x1, x2, x3, xf⟩ := HX.out wr hG
    clear own0 g1
    by_cases hlt : k < n
    · have i0 : (0 : Int) ≤ (k : Int) := Int.natCast_nonneg k
      have i1 : (k : Int) < (n : Int) := Int.ofNat_lt.mpr hlt
      obtain ⟨b, off, r, Av, Lv, Cv, rfl, hr, hSb, hb, c0, c1, hvr, hrd⟩ := row_at (HD.out.mono (S' := (· < w.heap.size)) (w' := wr) (fun b hb => hb) (fun b hb => (gW.trans hG).block hb)) hlt
      have hrid := HI.out r (List.mem_of_getElem? hr.out)
      have j0 : ¬ (x.id ≤ r.id) := by omega
      have j1 : decide (x.id ≤ r.id) = false := decide_eq_false j0
      have j2 : (r.id == x.id) = false := by simp; omega
      have j3 : (r.id != x.id) = true := by simp; omega
      have HRD := Lib.hid hrd
      have HTK : Hid (rows.take (k + 1) = rows.take k ++ [r]) := Lib.hid (by
        obtain ⟨hk', hxe⟩ := List.getElem?_eq_some_iff.mp hr.out
        rw [List.take_succ_eq_append_getElem hk', hxe])
      clear hvr hrd hr
      go_wp2_with fail
      go_region_held3 (fun w' => Grow wr w' ∧ Same wr w') (exact Grow.both (by repeat (with_reducible first | exact Grow.refl _ | assumption | refine Grow.drew ?_ | refine Grow.alloc ?_ _ | refine Grow.set ?_ (by first | exact Nat.le_refl _ | (simp; done) | (simp; omega) | omega) _ | exact And.left (by assumption) | refine Grow.trans ?_ (by assumption)))) (skip)
      go_wp2_with fail
      go_region_held3 (fun w' => Grow wr w' ∧ Same wr w') (exact Grow.both (by repeat (with_reducible first | exact Grow.refl _ | assumption | refine Grow.drew ?_ | refine Grow.alloc ?_ _ | refine Grow.set ?_ (by first | exact Nat.le_refl _ | (simp; done) | (simp; omega) | omega) _ | exact And.left (by assumption) | refine Grow.trans ?_ (by assumption)))) (skip)
      generalize hZ : World.drew _ = Z
      have gZ : Grow wr Z := by rw [← hZ]; exact (Grow.refl wr).drew.drew
      clear hZ
      have ownZ := own.grow gZ
      obtain ⟨t0, t1, t2, y0, y1, y2, y3, yf⟩ := HX.out Z (hG.trans gZ)
      have e0 := (gZ.same b (off + k * 2) hb).trans c0
      have e1 := (gZ.same b (off + k * 2 + 1) hb).trans c1
      have hbZ := Nat.lt_of_lt_of_le hb gZ.size
      have SRC : SrcO Kd.row (Z.alloc (.cells #[.int .i64 r.id, .slice Av Lv Cv] 48)) (· < w.heap.size) (some ⟨Z.heap.size, 0, none⟩) 1 [r] := srcO_one (new_block Z _) (Kd.row.mono HRD.out (fun b hb => hb) (fun b hb => (gZ.alloc _).block (Nat.lt_of_lt_of_le hb (gW.trans hG).size)))
      have HS := Lib.hid SRC
      clear SRC c0 c1 x0 x1 x2 x3 xf s0 s1 s2
      go_wp2_with (at_builtin; refine wpList_appO ones_rowO elem_rowO rfl (.tmp 42) (.tmp 48) (by rfl) (by rfl) (ownZ.grow ((Grow.refl Z).alloc _)) (by rfl) HS.out (q := k + 1) rfl (by unfold maxLen; omega) (by omega) (fun A3 c3 w4 ap => ?_))
      go_roundw
      case rel => exact ⟨k + 1, c3, A3, by omega, by go_num, rfl, rfl, by rw [HTK.out]; exact ap.own⟩
      case measure => simp [intOf]; omega
    · obtain rfl : k = n := by omega
      rw [List.take_of_length_le (by rw [HL.out]; exact Nat.le_refl _)] at own
      have SRC : SrcO Kd.row (wr.alloc (.cells #[.int .i64 x.id, .slice V lv cv] 48)) (· < w.heap.size) (some ⟨wr.heap.size, 0, none⟩) 1 [x] := srcO_one (new_block wr _) ⟨V, lv, cv, rfl, HV.out.mono (fun b hb => hb) (fun b hb => (gW.trans (hG.alloc _)).block hb)⟩
      have HS := Lib.hid SRC
      clear SRC
      go_upto_region 13 with (at_builtin; refine wpList_appO ones_rowO elem_rowO rfl (.tmp 52) (.tmp 54) (by rfl) (by rfl) (own.grow ((Grow.refl wr).alloc _)) (by rfl) HS.out (q := k + 1) rfl (by unfold maxLen; omega) (by omega) (fun A3 c3 w4 ap => ?_))
      have own4 := ap.own
      have g4 := own4.grows
      obtain ⟨t0, t1, t2, y0, y1, y2, y3, yf⟩ := HX.out w4 g4
      have G4 := gW.trans g4
      have hsl := Lib.hid own4.isSl2
      clear own4 ap
      go_wp2
      refine bodyPost_ret (v := .agg #[.slice A3 (k + 1) c3]) (by simp [results, Tryz.results121, go_sem, y3, t2]) rfl ⟨A3, c3, rfl, ?_, setL_grow G4 (by omega) 0 [_]⟩
      have szW := gW.size
      refine hsl.out.mono (fun b hb => ?_) (fun b hb => setL_other w4 (w.heap.size + 1 + 1) (by rcases hb with hb | hb <;> omega) 0 [_])
      rw [show ((w4.setCell ⟨w.heap.size + 1 + 1, 0, none⟩ (.slice A3 (k + 1) c3))).heap.size = w4.heap.size from setL_size w4 (w.heap.size + 1 + 1) 0 [_]]
      rcases hb with hb | hb
      · have := G4.size; omega
      · exact hb.2
/-! ### SixC -/
set_option maxHeartbeats 8000000 in
set_option maxRecDepth 20000 in
theorem l4Copy_any {A : Option Addr} {n c : Nat} {db : List Data} (w : World) (h : IsSl Kd.data w (· < w.heap.size) A n c db) (hn : n ≤ 5) (hb : ∀ d ∈ db, d.rows.length ≤ 60 ∧ ∀ r ∈ d.rows, r.vals.length ≤ 8) :
    Calls Tryz.prog 50 #[.slice A n c] w (fun e w' => ∃ (B : Option Addr), e = .returned (.slice B n n) ∧ IsSl Kd.data w' (Fresh w.heap.size w') B n n db ∧ Grow w w') := by
  have HM := Lib.hid (show 24 * n ≤ 281474976710656 by omega)
  have HL := Lib.hid (show n ≤ maxLen by unfold maxLen; omega)
  have HD := Lib.hid h
  have HN := Lib.hid h.1
  have HBD := Lib.hid hb
  obtain ⟨i0, hi, hz0, hz1, hz2⟩ := info_parts info_data
  clear h hb
  go_enter Tryz.func50, Tryz.ntmps50
  go_wp2_with (at_make; refine wpList_make_full _ rfl _ _ 25 rfl w.heap.size 39 i0 _ 1 Tryz.underlying25 hi hz0 hz1 .i64 .i64 _ _ n rfl rfl rfl rfl (by rw [hz2]; exact HM.out) HL.out (Nat.le_refl _) ?_; intro w0 hown hgrow)
  have hG0 : Grow w w0 := Below.grown (Below.refl _ _) hgrow (Nat.le_refl _) (fun k hk => by cases hk)
  have hcells : ∃ rows, w0.ownsRow w.heap.size 39 1 (.slice (some ⟨w.heap.size, 0, none⟩) n n) n rows ∧ ∀ j, j < n → rows[j]? = some (.slice none 0 0) := ⟨_, hown, fun j hj => by
    rw [Array.getElem?_toList, madeCells]
    simp [hj, Value.cells, Nat.mod_one]⟩
  clear hown hgrow hi hz0 hz1 hz2
  have own0 : OwnG Kd.data 39 w.heap.size w0 (some ⟨w.heap.size, 0, none⟩) n n (List.replicate n ⟨[]⟩) := by
    obtain ⟨rows, h1, h2⟩ := hcells
    have hl : rows.length = n := by have := h1.1; omega
    have hr : rows = List.replicate n (.slice none 0 0) := List.ext_getElem? fun j => by
      by_cases hj : j < n
      · rw [h2 j hj, List.getElem?_replicate, if_pos hj]
      · rw [List.getElem?_eq_none (by omega), List.getElem?_eq_none (by simp; omega)]
    refine ⟨rows, h1, ?_, by simp⟩
    rw [hr]
    exact flat_zero _ _ n
  clear hcells
  go_wp2_with fail
  go_loopw [4, 5, 6] (fun iv _ _ wr => ∃ (k : Nat) (ds : List Data), k ≤ n ∧ iv = .int .i64 k ∧ OwnG Kd.data 39 w.heap.size wr (some ⟨w.heap.size, 0, none⟩) n n ds ∧ Hid (∀ j, j < k → ds[j]? = db[j]?) ∧ Grow w wr) (fun iv _ _ _ => n - (intOf iv).toNat)
  case atStart => exact ⟨0, _, Nat.zero_le _, rfl, own0, Lib.hid (fun j hj => absurd hj (Nat.not_lt_zero _)), hG0⟩
  case round =>
    obtain ⟨k, ds, hk, rfl, own, HA, hG⟩ := hrel
    clear own0 hG0
    by_cases hlt : k < n
    · have i0 : (0 : Int) ≤ (k : Int) := Int.natCast_nonneg k
      have i1 : (k : Int) < (n : Int) := Int.ofNat_lt.mpr hlt
      obtain ⟨wo, hwo⟩ : ∃ wo, wo = wr := ⟨_, rfl⟩
      subst hwo
      obtain ⟨b, off, d, Ar, Lr, Cr, rfl, hx, hSb, hbl, c0, hrows, _⟩ := data_at (HD.out.grow hG) hlt
      have hbd := HBD.out d (List.mem_of_getElem? hx.out)
      have HR := Lib.hid hrows
      have hLr : Lr ≤ 60 := by have := hrows.1; omega
      have HOW := Lib.hid own
      have hD : w.heap.size < wo.heap.size := by
        obtain ⟨p, hp⟩ := own.there (by omega)
        exact (own.baseB w.heap.size rfl).2
      clear hrows own
      go_upto_region 6 with (fail)
      generalize hWi : World.alloc wo _ = wi
      have ri : OwnG Kd.row 48 wo.heap.size wi (some ⟨wo.heap.size, 0, none⟩) 0 0 [] := by rw [← hWi]; exact OwnG.made (Nat.le_refl _)
      have gi : Grow wo wi := by rw [← hWi]; exact (Grow.refl wo).alloc _
      clear hWi
      go_wp2_with fail
      go_loopw [5, 6] (fun sv kv wr => ∃ (q m : Nat) (R : Option Addr), q ≤ Lr ∧ kv = .int .i64 q ∧ sv = .slice R q m ∧ OwnG Kd.row 48 wo.heap.size wr R q m (d.rows.take q) ∧ Grow wo wr) (fun _ kv _ => Lr - (intOf kv).toNat)
      case atStart => exact ⟨0, 0, _, Nat.zero_le _, rfl, rfl, ri, gi⟩
      case round =>
        obtain ⟨q, m, R, hq, rfl, rfl, rown, rg⟩ := hrel
        clear ri gi
        by_cases hql : q < Lr
        · have l0 : (0 : Int) ≤ (q : Int) := Int.natCast_nonneg q
          have l1 : (q : Int) < (Lr : Int) := Int.ofNat_lt.mpr hql
          obtain ⟨b', off', r, Av, Lv, Cv, rfl, hr, hSb', hbl', e0, e1, hvals, _⟩ := row_at HR.out hql
          have HV := Lib.hid hvals
          have hv8 : Lv ≤ 1048576 := by have h1 := hbd.2 r (List.mem_of_getElem? hr.out); have h2 := hvals.1; omega
          have HTK : Hid (d.rows.take (q + 1) = d.rows.take q ++ [r]) := Lib.hid (by
            obtain ⟨hk', hxe⟩ := List.getElem?_eq_some_iff.mp hr.out
            rw [List.take_succ_eq_append_getElem hk', hxe])
          have rbase := fun p hp => (rown.baseB p hp).2
          have d0 := (rg.same b (off + k) hbl).trans c0
          have d1 := (rg.same b' (off' + q * 2) hbl').trans e0
          have d2 := (rg.same b' (off' + q * 2 + 1) hbl').trans e1
          have hbw := Nat.lt_of_lt_of_le hbl rg.size
          have hbw' := Nat.lt_of_lt_of_le hbl' rg.size
          clear hvals hr
          go_wp2_with fail
          refine wp_region_held_drew (S := (fun w' => Grow wo w' ∧ Same wo w')) (by kernel_rfl) (by exact Grow.both (by repeat (with_reducible first | exact Grow.refl _ | assumption | refine Grow.drew ?_ | refine Grow.alloc ?_ _ | refine Grow.set ?_ (by first | exact Nat.le_refl _ | (simp; done) | (simp; omega) | omega) _ | exact And.left (by assumption) | refine Grow.trans ?_ (by assumption)))) (fun hHeld => ?_)
          ((refine tk 0 27 rfl rfl (v := ?_) ?_ ?_; rotate_left 1; (focus (intro w hSw; (try dsimp only at hSw); go_simp; (try with_reducible rfl); done)); all_goals (try simp only [Act.put, List.setIfInBounds_toArray, List.set_cons_zero, List.set_cons_succ])); (refine tk 1 28 rfl rfl (v := ?_) ?_ ?_; rotate_left 1; (focus (intro w hSw; (try dsimp only at hSw); go_simp; (try with_reducible rfl); done)); all_goals (try simp only [Act.put, List.setIfInBounds_toArray, List.set_cons_zero, List.set_cons_succ])); (refine tk 2 29 rfl rfl (v := ?_) ?_ ?_; rotate_left 1; (focus (intro w hSw; (try dsimp only at hSw); go_simp; (try with_reducible rfl); done)); all_goals (try simp only [Act.put, List.setIfInBounds_toArray, List.set_cons_zero, List.set_cons_succ])); (refine tk 3 30 rfl rfl (v := ?_) ?_ ?_; rotate_left 1; (focus (intro w hSw; (try dsimp only at hSw); go_simp; (try with_reducible rfl); done)); all_goals (try simp only [Act.put, List.setIfInBounds_toArray, List.set_cons_zero, List.set_cons_succ])); (refine tk 4 31 rfl rfl (v := ?_) ?_ ?_; rotate_left 1; (focus (intro w hSw; (try dsimp only at hSw); go_simp; (try with_reducible rfl); done)); all_goals (try simp only [Act.put, List.setIfInBounds_toArray, List.set_cons_zero, List.set_cons_succ])); (refine tk 5 32 rfl rfl (v := ?_) ?_ ?_; rotate_left 1; (focus (intro w hSw; (try dsimp only at hSw); go_simp; (try with_reducible rfl); done)); all_goals (try simp only [Act.put, List.setIfInBounds_toArray, List.set_cons_zero, List.set_cons_succ])); (refine tk 6 33 rfl rfl (v := ?_) ?_ ?_; rotate_left 1; (focus (intro w hSw; (try dsimp only at hSw); go_simp; (try with_reducible rfl); done)); all_goals (try simp only [Act.put, List.setIfInBounds_toArray, List.set_cons_zero, List.set_cons_succ])); (refine tk 7 34 rfl rfl (v := ?_) ?_ ?_; rotate_left 1; (focus (intro w hSw; (try dsimp only at hSw); go_simp; (try with_reducible rfl); done)); all_goals (try simp only [Act.put, List.setIfInBounds_toArray, List.set_cons_zero, List.set_cons_succ])); (refine tk 8 35 rfl rfl (v := ?_) ?_ ?_; rotate_left 1; (focus (intro w hSw; (try dsimp only at hSw); go_simp; (try with_reducible rfl); done)); all_goals (try simp only [Act.put, List.setIfInBounds_toArray, List.set_cons_zero, List.set_cons_succ])); (refine tk 9 36 rfl rfl (v := ?_) ?_ ?_; rotate_left 1; (focus (intro w hSw; (try dsimp only at hSw); go_simp; (try with_reducible rfl); done)); all_goals (try simp only [Act.put, List.setIfInBounds_toArray, List.set_cons_zero, List.set_cons_succ])); (refine tk 10 37 rfl rfl (v := ?_) ?_ ?_; rotate_left 1; (focus (intro w hSw; (try dsimp only at hSw); go_simp; (try with_reducible rfl); done)); all_goals (try simp only [Act.put, List.setIfInBounds_toArray, List.set_cons_zero, List.set_cons_succ])); (refine tk 11 38 rfl rfl (v := ?_) ?_ ?_; rotate_left 1; (focus (intro w hSw; (try dsimp only at hSw); go_simp; (try with_reducible rfl); done)); all_goals (try simp only [Act.put, List.setIfInBounds_toArray, List.set_cons_zero, List.set_cons_succ])); (refine tk 12 39 rfl rfl (v := ?_) ?_ ?_; rotate_left 1; (focus (intro w hSw; (try dsimp only at hSw); go_simp; (try with_reducible rfl); done)); all_goals (try simp only [Act.put, List.setIfInBounds_toArray, List.set_cons_zero, List.set_cons_succ])); (refine tk 13 40 rfl rfl (v := ?_) ?_ ?_; rotate_left 1; (focus (intro w hSw; (try dsimp only at hSw); go_simp; (try with_reducible rfl); done)); all_goals (try simp only [Act.put, List.setIfInBounds_toArray, List.set_cons_zero, List.set_cons_succ])); (refine tk 14 41 rfl rfl (v := ?_) ?_ ?_; rotate_left 1; (focus (intro w hSw; (try dsimp only at hSw); go_simp; (try with_reducible rfl); done)); all_goals (try simp only [Act.put, List.setIfInBounds_toArray, List.set_cons_zero, List.set_cons_succ])); (refine tk 15 42 rfl rfl (v := ?_) ?_ ?_; rotate_left 1; (focus (intro w hSw; (try dsimp only at hSw); go_simp; (try with_reducible rfl); done)); all_goals (try simp only [Act.put, List.setIfInBounds_toArray, List.set_cons_zero, List.set_cons_succ])); (refine tk 16 43 rfl rfl (v := ?_) ?_ ?_; rotate_left 1; (focus (intro w hSw; (try dsimp only at hSw); go_simp; (try with_reducible rfl); done)); all_goals (try simp only [Act.put, List.setIfInBounds_toArray, List.set_cons_zero, List.set_cons_succ])); (refine tk 17 44 rfl rfl (v := ?_) ?_ ?_; rotate_left 1; (focus (intro w hSw; (try dsimp only at hSw); go_simp; (try with_reducible rfl); done)); all_goals (try simp only [Act.put, List.setIfInBounds_toArray, List.set_cons_zero, List.set_cons_succ])); (refine tk 18 45 rfl rfl (v := ?_) ?_ ?_; rotate_left 1; (focus (intro w hSw; (try dsimp only at hSw); go_simp; (try with_reducible rfl); done)); all_goals (try simp only [Act.put, List.setIfInBounds_toArray, List.set_cons_zero, List.set_cons_succ])))
          generalize hV : World.drew wr = V at hHeld ⊢
          have vG : Grow wr V := by rw [← hV]; exact (Grow.refl wr).drew
          clear hV
          have gV : Grow wo V := rg.trans vG
          (refine wpAnyH_ready (rs := [19]) (by kernel_rfl) (by simp) ?_; refine AllReadyH.cons rfl (fun K hK => ?_) AllReadyH.nil; go_simp; (go_at_call 71; refine (l1CopyVals_any V (HV.out.grow gV) hv8).mono ?_; rintro e w3 ⟨Bv, dv, rfl, ownv⟩; have gv := ownv.grows; have gV3 := gV.trans gv); refine hK.out _ _ (by exact Grow.both (by repeat (with_reducible first | exact Grow.refl _ | assumption | refine Grow.drew ?_ | refine Grow.alloc ?_ _ | refine Grow.set ?_ (by first | exact Nat.le_refl _ | (simp; done) | (simp; omega) | omega) _ | exact And.left (by assumption) | refine Grow.trans ?_ (by assumption)))) (fun hHeld => ?_); clear hK K; (try refine held_put 46 rfl ?_); (try simp only [Act.put, List.setIfInBounds_toArray, List.set_cons_zero, List.set_cons_succ]))
          ((refine tk 20 47 rfl rfl (v := ?_) ?_ ?_; rotate_left 1; (focus (intro w hSw; (try dsimp only at hSw); go_simp; (try with_reducible rfl); done)); all_goals (try simp only [Act.put, List.setIfInBounds_toArray, List.set_cons_zero, List.set_cons_succ])))
          refine wpAnyH_ready (rs := [21]) (by kernel_rfl) (by simp) ?_
          refine AllReadyH.cons rfl (fun K hK => ?_) AllReadyH.nil
          go_simp
          refine hK.out _ _ (by exact Grow.both (gV3.alloc _)) (fun hHeld => ?_)
          clear hK K
          (try refine held_put 48 rfl ?_)
          (try simp only [Act.put, List.setIfInBounds_toArray, List.set_cons_zero, List.set_cons_succ])
          generalize hW4 : World.alloc w3 _ = W4 at hHeld ⊢
          obtain ⟨gW4, s4, q4⟩ := boxedB hW4
          clear hW4
          have G4 : Grow wo W4 := gV3.trans gW4
          have own4 := rown.grow (vG.trans (gv.trans gW4))
          have SRC : IsSl Kd.row W4 (Led wo.heap.size W4 R) (some ⟨w3.heap.size, 0, none⟩) 1 1 [r] :=
            isSl_lit q4 (flat_one ⟨Bv, Lv, dv, rfl, ownv.isSl.mono (fun x hx => ⟨(hx.low gV.size).grow gW4, fun e => by have h1 := rbase x e; have h2 := hx.1; have h3 := vG.size; omega⟩) (fun x hx => gW4.block hx.2.1)⟩) rfl (by decide) ⟨⟨gV3.size, s4, (free_of q4).2⟩, fun e => by have h1 := rbase _ e; have h2 := (vG.trans gv).size; omega⟩
          refine wpAnyH_ready (rs := [22]) (by kernel_rfl) (by simp) ?_
          refine AllReadyH.cons rfl (fun K hK => ?_) AllReadyH.nil
          refine step_appG ones_rowO elem_rowO (by rfl) (.tmp 27) (.tmp 48) (by rfl) (by rfl) own4 G4.size (by rfl) SRC (fun _ h => h) (q := q + 1) rfl (by unfold maxLen; omega) (by omega) (fun A5 c5 w5 ap5 => ?_)
          have G5 : Grow wo w5 := ap5.grow G4 (Nat.le_refl _)
          refine hK.out _ _ (by exact Grow.both G5) (fun hHeld => ?_)
          clear hK K
          (try refine held_put 49 rfl ?_)
          (try simp only [Act.put, List.setIfInBounds_toArray, List.set_cons_zero, List.set_cons_succ])
          have H5 := Lib.hid ap5.own
          ((refine tk 23 5 rfl rfl (v := ?_) ?_ ?_; rotate_left 1; (focus (intro w hSw; (try dsimp only at hSw); go_simp; (try with_reducible rfl); done)); all_goals (try simp only [Act.put, List.setIfInBounds_toArray, List.set_cons_zero, List.set_cons_succ])))
          clear ap5 SRC own4 q4 d0 d1 d2 e0 e1
          refine wpAnyH_done (by kernel_rfl) ?_ _
          go_wp2
          go_roundw
          case rel => exact ⟨q + 1, c5, A5, by omega, by go_num, rfl, by rw [HTK.out]; exact H5.out, G5⟩
          case measure => simp [intOf]; omega
        · obtain rfl : q = Lr := by omega
          have hfull : d.rows.take q = d.rows := List.take_of_length_le (by rw [HR.out.1]; exact Nat.le_refl _)
          rw [hfull] at rown
          have ownw := HOW.out.grow rg
          obtain ⟨b2, off2, x2, A2, L2, C2, he, hx2, hS2, hb2, c2, _, _⟩ := data_at ownw.isSl hlt
          simp only [Option.some.injEq, Addr.mk.injEq, and_true] at he
          obtain ⟨rfl, rfl⟩ := he
          have ff := hS2.2.2
          have own5 := ownw.put1 (i := k) (j := 0) hx2.out (by decide) (v := .slice R q m) (y := d) (fun cs hr => by
            obtain ⟨_, _, _, rfl, _⟩ := hr
            exact ⟨R, q, m, rfl, rown.isSl.mono (fun x hx => ⟨hx.low hG.size, fun e => by simp only [blockOf, Option.some.injEq] at e; have := hx.1; omega⟩) (fun _ _ => rfl)⟩)
          rw [show k * Kd.data.n + 0 = k from Nat.mul_one k] at own5
          have H5 := Lib.hid own5
          have HA2 : Hid (∀ j, j < k + 1 → (ds.set k d)[j]? = db[j]?) := Lib.hid (fun j hj => by
            by_cases hjk : j = k
            · subst hjk
              rw [List.getElem?_set_self (by rw [HOW.out.len]; exact hlt), hx.out]
            · rw [List.getElem?_set_ne (Ne.symm hjk)]; exact HA.out j (by omega))
          have GF : Grow w (wr.setCell ⟨w.heap.size, k, none⟩ (.slice R q m)) := (hG.trans rg).set (Nat.le_refl _) _
          rw [Nat.zero_add] at c2
          have d0 := (rg.same b (off + k) hbl).trans c0
          have hbw := Nat.lt_of_lt_of_le hbl rg.size
          clear own5 ownw rown hx2 hS2
          go_wp2
          go_roundw
          case rel => exact ⟨k + 1, ds.set k d, by omega, by go_num, H5.out, HA2, GF⟩
          case measure => simp [intOf]; omega
    · obtain rfl : k = n := by omega
      have hds : ds = db := List.ext_getElem? fun j => by
        by_cases hj : j < k
        · exact HA.out j hj
        · rw [List.getElem?_eq_none (by rw [own.len]; omega), List.getElem?_eq_none (by rw [HN.out]; omega)]
      subst hds
      have hsl := own.isSl
      go_wp2
      go_ret
      exact ⟨_, rfl, hsl, hG⟩
/-! ### SixR -/
set_option maxHeartbeats 8000000 in
set_option maxRecDepth 20000 in
theorem l6Rivals_next {cs : List Value} {t : Table} {A V : Option Addr} {n c lv cv : Nat} {rows : List Row} {x : Row} (w : World) (h : Kd.table.rd w (· < w.heap.size) cs t) (hr : IsSl Kd.row w (· < w.heap.size) A n c rows) (hv : IsSl Kd.val w (· < w.heap.size) V lv cv x.vals)
    (hk : KeysIn t) (hu3 : t.uniques.length ≤ 3) (hvl : x.vals.length = t.cols.length) (hrl : ∀ r ∈ rows, r.vals.length = t.cols.length) (hn : n ≤ 60) (hid : ∀ r ∈ rows, r.id < x.id) :
    Calls Tryz.prog 154 #[.agg cs.toArray, .agg #[.slice A n c], .agg #[.int .i64 x.id, .slice V lv cv]] w (fun e w' => ∃ (P : Option Addr) (l d : Nat), e = .returned (.slice P l d) ∧ l ≤ 60 ∧ Grow w w') := by
  have HT := Lib.hid h
  have HR := Lib.hid hr
  have HV := Lib.hid hv
  have HK := Lib.hid hk
  have HVL := Lib.hid hvl
  have HRL := Lib.hid hrl
  have HI := Lib.hid hid
  obtain ⟨Acols, Lcols, Ccols, Akey, Lkey, Ckey, Auniques, Luniques, Cuniques, Achecks, Lchecks, Cchecks, Afks, Lfks, Cfks, rfl, -⟩ := h
  clear hr hv hk hvl hrl hid
  go_enter Tryz.func154, Tryz.ntmps154
  go_upto_region 1 with (fail)
  generalize hW : World.alloc (World.alloc (World.alloc w _) _) _ = W
  obtain ⟨gW, sW, b0, b1, b2⟩ := boxed3B hW
  clear hW
  have HB := Lib.hid (And.intro b0 (And.intro b1 b2))
  have boxes : ∀ X : World, Grow W X → w.heap.size + 1 + 1 < X.heap.size ∧ X.heap[w.heap.size]? = W.heap[w.heap.size]? ∧ X.heap[w.heap.size + 1]? = W.heap[w.heap.size + 1]? ∧ X.heap[w.heap.size + 1 + 1]? = W.heap[w.heap.size + 1 + 1]? := fun X hX =>
    ⟨by have := hX.size; omega, hX.block (by omega), hX.block (by omega), hX.block sW⟩
  have HX := Lib.hid boxes
  clear boxes
  have own0 : OwnF Kd.int 2 W (W.alloc (.cells #[] 2)) (some ⟨W.heap.size, 0, none⟩) 0 0 [] := OwnF.made (Grow.refl W)
  go_upto_region 2 with (fail)
  generalize hW1 : World.alloc W _ = W1 at own0 ⊢
  clear hW1
  go_wp2_with fail
  go_loopw [7, 8] (fun sv iv wr => ∃ (k l c' : Nat) (P : Option Addr) (xs : List Int), k ≤ n ∧ l ≤ k ∧ iv = .int .i64 k ∧ sv = .slice P l c' ∧ OwnF Kd.int 2 W wr P l c' xs) (fun _ iv _ => n - (intOf iv).toNat)
  case atStart => exact ⟨0, 0, 0, _, [], Nat.zero_le _, Nat.zero_le _, rfl, rfl, own0⟩
  case round =>
    obtain ⟨k, l, c', P, xs, hk, hl, rfl, rfl, own⟩ := hrel
    clear own0
    have hG := own.grows
    obtain ⟨s2, h0, h1, h2⟩ := HX.out wr hG
    rw [b0] at h0
    rw [b1] at h1
    rw [b2] at h2
    have x0 := (free_of h0).1
    have x1 := (free_of h1).1
    have x2 := (free_of h2).1
    have s0 : w.heap.size < wr.heap.size := by omega
    have s1 : w.heap.size + 1 < wr.heap.size := by omega
    clear h0 h1 h2
    by_cases hlt : k < n
    · have i0 : (0 : Int) ≤ (k : Int) := Int.natCast_nonneg k
      have i1 : (k : Int) < (n : Int) := Int.ofNat_lt.mpr hlt
      obtain ⟨b, off, r, Av, Lv, Cv, rfl, hr, hSb, hb, c0, c1, hvr, hrd⟩ := row_at (HR.out.grow (gW.trans hG)) hlt
      have hrid := HI.out r (List.mem_of_getElem? hr.out)
      have hrm := HRL.out r (List.mem_of_getElem? hr.out)
      have j2 : (r.id == x.id) = false := by simp; omega
      have j3 : (r.id != x.id) = true := by simp; omega
      have HVR := Lib.hid hvr
      obtain ⟨q, hq⟩ : ∃ q, aloneB t [r] x = q := ⟨_, rfl⟩
      have HQ := Lib.hid hq
      clear hvr hrd hr hq
      go_wp2_with fail
      refine wp_region_held_drew (S := (fun w' => Grow wr w' ∧ Same wr w')) (by kernel_rfl) (by exact Grow.both (by repeat (with_reducible first | exact Grow.refl _ | assumption | refine Grow.drew ?_ | refine Grow.alloc ?_ _ | refine Grow.set ?_ (by first | exact Nat.le_refl _ | (simp; done) | (simp; omega) | omega) _ | exact And.left (by assumption) | refine Grow.trans ?_ (by assumption)))) (fun hHeld => ?_)
      ((refine tk 0 17 rfl rfl (v := ?_) ?_ ?_; rotate_left 1; (focus (intro w hSw; (try dsimp only at hSw); go_simp; (try with_reducible rfl); done)); all_goals (try simp only [Act.put, List.setIfInBounds_toArray, List.set_cons_zero, List.set_cons_succ])); (refine tk 1 18 rfl rfl (v := ?_) ?_ ?_; rotate_left 1; (focus (intro w hSw; (try dsimp only at hSw); go_simp; (try with_reducible rfl); done)); all_goals (try simp only [Act.put, List.setIfInBounds_toArray, List.set_cons_zero, List.set_cons_succ])); (refine tk 2 19 rfl rfl (v := ?_) ?_ ?_; rotate_left 1; (focus (intro w hSw; (try dsimp only at hSw); go_simp; (try with_reducible rfl); done)); all_goals (try simp only [Act.put, List.setIfInBounds_toArray, List.set_cons_zero, List.set_cons_succ])); (refine tk 3 20 rfl rfl (v := ?_) ?_ ?_; rotate_left 1; (focus (intro w hSw; (try dsimp only at hSw); go_simp; (try with_reducible rfl); done)); all_goals (try simp only [Act.put, List.setIfInBounds_toArray, List.set_cons_zero, List.set_cons_succ])); (refine tk 4 21 rfl rfl (v := ?_) ?_ ?_; rotate_left 1; (focus (intro w hSw; (try dsimp only at hSw); go_simp; (try with_reducible rfl); done)); all_goals (try simp only [Act.put, List.setIfInBounds_toArray, List.set_cons_zero, List.set_cons_succ])); (refine tk 5 22 rfl rfl (v := ?_) ?_ ?_; rotate_left 1; (focus (intro w hSw; (try dsimp only at hSw); go_simp; (try with_reducible rfl); done)); all_goals (try simp only [Act.put, List.setIfInBounds_toArray, List.set_cons_zero, List.set_cons_succ])); (refine tk 6 23 rfl rfl (v := ?_) ?_ ?_; rotate_left 1; (focus (intro w hSw; (try dsimp only at hSw); go_simp; (try with_reducible rfl); done)); all_goals (try simp only [Act.put, List.setIfInBounds_toArray, List.set_cons_zero, List.set_cons_succ])); (refine tk 7 24 rfl rfl (v := ?_) ?_ ?_; rotate_left 1; (focus (intro w hSw; (try dsimp only at hSw); go_simp; (try with_reducible rfl); done)); all_goals (try simp only [Act.put, List.setIfInBounds_toArray, List.set_cons_zero, List.set_cons_succ])); (refine tk 8 25 rfl rfl (v := ?_) ?_ ?_; rotate_left 1; (focus (intro w hSw; (try dsimp only at hSw); go_simp; (try with_reducible rfl); done)); all_goals (try simp only [Act.put, List.setIfInBounds_toArray, List.set_cons_zero, List.set_cons_succ])); (refine tk 9 26 rfl rfl (v := ?_) ?_ ?_; rotate_left 1; (focus (intro w hSw; (try dsimp only at hSw); go_simp; (try with_reducible rfl); done)); all_goals (try simp only [Act.put, List.setIfInBounds_toArray, List.set_cons_zero, List.set_cons_succ])); (refine tk 10 27 rfl rfl (v := ?_) ?_ ?_; rotate_left 1; (focus (intro w hSw; (try dsimp only at hSw); go_simp; (try with_reducible rfl); done)); all_goals (try simp only [Act.put, List.setIfInBounds_toArray, List.set_cons_zero, List.set_cons_succ])); (refine tk 11 28 rfl rfl (v := ?_) ?_ ?_; rotate_left 1; (focus (intro w hSw; (try dsimp only at hSw); go_simp; (try with_reducible rfl); done)); all_goals (try simp only [Act.put, List.setIfInBounds_toArray, List.set_cons_zero, List.set_cons_succ])); (refine tk 12 29 rfl rfl (v := ?_) ?_ ?_; rotate_left 1; (focus (intro w hSw; (try dsimp only at hSw); go_simp; (try with_reducible rfl); done)); all_goals (try simp only [Act.put, List.setIfInBounds_toArray, List.set_cons_zero, List.set_cons_succ])); (refine tk 13 30 rfl rfl (v := ?_) ?_ ?_; rotate_left 1; (focus (intro w hSw; (try dsimp only at hSw); go_simp; (try with_reducible rfl); done)); all_goals (try simp only [Act.put, List.setIfInBounds_toArray, List.set_cons_zero, List.set_cons_succ])); (refine tk 14 31 rfl rfl (v := ?_) ?_ ?_; rotate_left 1; (focus (intro w hSw; (try dsimp only at hSw); go_simp; (try with_reducible rfl); done)); all_goals (try simp only [Act.put, List.setIfInBounds_toArray, List.set_cons_zero, List.set_cons_succ])); (refine tk 15 32 rfl rfl (v := ?_) ?_ ?_; rotate_left 1; (focus (intro w hSw; (try dsimp only at hSw); go_simp; (try with_reducible rfl); done)); all_goals (try simp only [Act.put, List.setIfInBounds_toArray, List.set_cons_zero, List.set_cons_succ])); (refine tk 18 35 rfl rfl (v := ?_) ?_ ?_; rotate_left 1; (focus (intro w hSw; (try dsimp only at hSw); go_simp; (try with_reducible rfl); done)); all_goals (try simp only [Act.put, List.setIfInBounds_toArray, List.set_cons_zero, List.set_cons_succ])))
      generalize hV : World.drew wr = V at hHeld ⊢
      have vG : Grow wr V := by rw [← hV]; exact (Grow.refl wr).drew
      clear hV
      refine wpAnyH_ready (rs := [16]) (by kernel_rfl) (by simp) ?_
      refine AllReadyH.cons rfl (fun K hK => ?_) AllReadyH.nil
      go_simp
      refine hK.out _ _ (by exact Grow.both (vG.alloc _)) (fun hHeld => ?_)
      clear hK K
      (try refine held_put 33 rfl ?_)
      (try simp only [Act.put, List.setIfInBounds_toArray, List.set_cons_zero, List.set_cons_succ])
      generalize hW4 : World.alloc V _ = W4 at hHeld ⊢
      obtain ⟨gW4, s4, q4⟩ := boxedB hW4
      clear hW4
      have G4 : Grow wr W4 := vG.trans gW4
      have GW := gW.trans (hG.trans G4)
      ((refine tk 17 34 rfl rfl (v := ?_) ?_ ?_; rotate_left 1; (focus (intro w hSw; (try dsimp only at hSw); go_simp; (try with_reducible rfl); done)); all_goals (try simp only [Act.put, List.setIfInBounds_toArray, List.set_cons_zero, List.set_cons_succ])))
      have HSL : IsSl Kd.row W4 (· < W4.heap.size) (some ⟨V.heap.size, 0, none⟩) 1 1 [r] := isSl_lit q4 (flat_one ⟨Av, Lv, Cv, rfl, HVR.out.mono (fun y hy => Nat.lt_of_lt_of_le hy G4.size) (fun y hy => G4.block hy)⟩) rfl (by decide) s4
      have HC := l5Unique_eq (x := x) HQ.out W4 (Kd.grow Kd.table HT.out GW) HSL (HV.out.grow GW) HK.out hu3 HVL.out (by simpa using hrm) (by decide)
      (refine wpAnyH_ready (rs := [19]) (by kernel_rfl) (by simp) ?_; refine AllReadyH.cons rfl (fun K hK => ?_) AllReadyH.nil; go_simp; (go_at_call 87; refine HC.mono ?_; rintro e w5 ⟨rfl, g5⟩; have G5 := G4.trans g5); refine hK.out _ _ (by exact Grow.both (by repeat (with_reducible first | exact Grow.refl _ | assumption | refine Grow.drew ?_ | refine Grow.alloc ?_ _ | refine Grow.set ?_ (by first | exact Nat.le_refl _ | (simp; done) | (simp; omega) | omega) _ | exact And.left (by assumption) | refine Grow.trans ?_ (by assumption)))) (fun hHeld => ?_); clear hK K; (try refine held_put 36 rfl ?_); (try simp only [Act.put, List.setIfInBounds_toArray, List.set_cons_zero, List.set_cons_succ]))
      ((refine tk 20 37 rfl rfl (v := ?_) ?_ ?_; rotate_left 1; (focus (intro w hSw; (try dsimp only at hSw); go_simp; (try with_reducible rfl); done)); all_goals (try simp only [Act.put, List.setIfInBounds_toArray, List.set_cons_zero, List.set_cons_succ])); (refine tk 21 38 rfl rfl (v := ?_) ?_ ?_; rotate_left 1; (focus (intro w hSw; (try dsimp only at hSw); go_simp; (try with_reducible rfl); done)); all_goals (try simp only [Act.put, List.setIfInBounds_toArray, List.set_cons_zero, List.set_cons_succ])))
      refine wpAnyH_done (by kernel_rfl) ?_ _
      have own5 := own.grow G5
      have e0 := (G5.same b (off + k * 2) hb).trans c0
      have y1 := (G5.same (w.heap.size + 1) 0 s1).trans (x1 0)
      have hb5 := Nat.lt_of_lt_of_le hb G5.size
      have s15 := Nat.lt_of_lt_of_le s1 G5.size
      clear x0 x1 x2 c0 c1 q4 hHeld
      cases q with
      | true =>
        go_wp2
        go_roundw
        case rel => exact ⟨k + 1, l, c', P, xs, by omega, by omega, by go_num, rfl, own5⟩
        case measure => simp [intOf]; omega
      | false =>
        go_wp2_with (at_builtin; refine wpList_app plain_int ones_int elem_int rfl (.tmp 39) (.tmp 46) (by rfl) (by rfl) (own5.grow ((Grow.refl _).alloc _)) (by rfl) (isSl_one (x := r.id) (by decide) (new_block _ _) rfl) (q := l + 1) rfl (by unfold maxLen; omega) (by omega) (fun A3 c3 w6 ap => ?_))
        go_roundw
        case rel => exact ⟨k + 1, l + 1, c3, A3, _, by omega, by omega, by go_num, rfl, ap.own⟩
        case measure => simp [intOf]; omega
    · obtain rfl : k = n := by omega
      go_wp2
      go_ret
      exact ⟨P, l, c', rfl, by omega, gW.trans hG⟩
set_option maxHeartbeats 8000000 in
set_option maxRecDepth 20000 in
theorem l6Clear_next {A B V : Option Addr} {la ca lb cb lv cv k : Nat} {s : List Table} {db : List Data} {x : Row} {t : Table} {d : Data} (w : World) (hs : IsSl Kd.table w (· < w.heap.size) A la ca s) (hd : IsSl Kd.data w (· < w.heap.size) B lb cb db) (hv : IsSl Kd.val w (· < w.heap.size) V lv cv x.vals)
    (ht : s[k]? = some t) (hdk : db[k]? = some d) (hk : KeysIn t) (hu3 : t.uniques.length ≤ 3) (hvl : x.vals.length = t.cols.length) (hrl : ∀ r ∈ d.rows, r.vals.length = t.cols.length) (hn : d.rows.length ≤ 60) (hid : ∀ r ∈ d.rows, r.id < x.id) :
    Calls Tryz.prog 120 #[.slice A la ca, .slice B lb cb, .int .i64 k, .agg #[.int .i64 x.id, .slice V lv cv], .bool false, .int .i64 0] w (fun e w' => (e = .returned (.tuple #[.slice none 0 0, .int .i64 4]) ∨ e = .returned (.tuple #[.slice B lb cb, .int .i64 0])) ∧ Grow w w') := by
  have hka : k < la := by rw [← hs.1]; exact (List.getElem?_eq_some_iff.mp ht).1
  have hkb : k < lb := by rw [← hd.1]; exact (List.getElem?_eq_some_iff.mp hdk).1
  have i0 : (0 : Int) ≤ (k : Int) := Int.natCast_nonneg k
  have i1 : (k : Int) < (la : Int) := Int.ofNat_lt.mpr hka
  have i2 : (k : Int) < (lb : Int) := Int.ofNat_lt.mpr hkb
  have HS := Lib.hid hs
  have HD := Lib.hid hd
  have HV := Lib.hid hv
  have HK := Lib.hid hk
  have HVL := Lib.hid hvl
  have HRL := Lib.hid hrl
  have HI := Lib.hid hid
  have HN := Lib.hid hn
  clear hs hd hv hk hvl hrl hid hn
  go_enter Tryz.func120, Tryz.ntmps120
  go_upto_region 1 with (fail)
  generalize hW : World.alloc w _ = W
  obtain ⟨gW, sW, b0⟩ := boxedB hW
  clear hW
  have x0 := (free_of b0).1
  obtain ⟨bT, oT, t', T0, p0, m0, T1, p1, m1, T2, p2, m2, T3, p3, m3, T4, p4, m4, rfl, hx, hST, hbT, hnm, e0, e1, e2, e3, e4, e5, _, _, _, _, _, hrd⟩ := table_at (HS.out.grow gW) hka
  obtain rfl : t' = t := Option.some.inj (hx.out.symm.trans ht)
  obtain ⟨bD, oD, d', Ar, Lr, Cr, rfl, hxd, hSD, hbD, f0, hrows, _⟩ := data_at (HD.out.grow gW) hkb
  obtain rfl : d' = d := Option.some.inj (hxd.out.symm.trans hdk)
  have HRD := Lib.hid hrd
  have HRW := Lib.hid hrows
  have hL60 : Lr ≤ 60 := by have := hrows.1; have := HN.out; omega
  have hf : Hid (∀ X, Grow W X → Grow w X) := Lib.hid (fun X hX => gW.trans hX)
  clear hrd hrows hx hxd b0
  refine wp_region_held_drew (S := (fun w' => Grow W w' ∧ Same W w')) (by kernel_rfl) (by exact Grow.both (by repeat (with_reducible first | exact Grow.refl _ | assumption | refine Grow.drew ?_ | refine Grow.alloc ?_ _ | refine Grow.set ?_ (by first | exact Nat.le_refl _ | (simp; done) | (simp; omega) | omega) _ | exact And.left (by assumption) | refine Grow.trans ?_ (by assumption)))) (fun hHeld => ?_)
  ((refine tk 0 18 rfl rfl (v := ?_) ?_ ?_; rotate_left 1; (focus (intro w hSw; (try dsimp only at hSw); go_simp; (try with_reducible rfl); done)); all_goals (try simp only [Act.put, List.setIfInBounds_toArray, List.set_cons_zero, List.set_cons_succ])); (refine tk 1 19 rfl rfl (v := ?_) ?_ ?_; rotate_left 1; (focus (intro w hSw; (try dsimp only at hSw); go_simp; (try with_reducible rfl); done)); all_goals (try simp only [Act.put, List.setIfInBounds_toArray, List.set_cons_zero, List.set_cons_succ])); (refine tk 2 20 rfl rfl (v := ?_) ?_ ?_; rotate_left 1; (focus (intro w hSw; (try dsimp only at hSw); go_simp; (try with_reducible rfl); done)); all_goals (try simp only [Act.put, List.setIfInBounds_toArray, List.set_cons_zero, List.set_cons_succ])); (refine tk 3 21 rfl rfl (v := ?_) ?_ ?_; rotate_left 1; (focus (intro w hSw; (try dsimp only at hSw); go_simp; (try with_reducible rfl); done)); all_goals (try simp only [Act.put, List.setIfInBounds_toArray, List.set_cons_zero, List.set_cons_succ])); (refine tk 4 22 rfl rfl (v := ?_) ?_ ?_; rotate_left 1; (focus (intro w hSw; (try dsimp only at hSw); go_simp; (try with_reducible rfl); done)); all_goals (try simp only [Act.put, List.setIfInBounds_toArray, List.set_cons_zero, List.set_cons_succ])); (refine tk 5 23 rfl rfl (v := ?_) ?_ ?_; rotate_left 1; (focus (intro w hSw; (try dsimp only at hSw); go_simp; (try with_reducible rfl); done)); all_goals (try simp only [Act.put, List.setIfInBounds_toArray, List.set_cons_zero, List.set_cons_succ])); (refine tk 6 24 rfl rfl (v := ?_) ?_ ?_; rotate_left 1; (focus (intro w hSw; (try dsimp only at hSw); go_simp; (try with_reducible rfl); done)); all_goals (try simp only [Act.put, List.setIfInBounds_toArray, List.set_cons_zero, List.set_cons_succ])); (refine tk 7 25 rfl rfl (v := ?_) ?_ ?_; rotate_left 1; (focus (intro w hSw; (try dsimp only at hSw); go_simp; (try with_reducible rfl); done)); all_goals (try simp only [Act.put, List.setIfInBounds_toArray, List.set_cons_zero, List.set_cons_succ])); (refine tk 8 26 rfl rfl (v := ?_) ?_ ?_; rotate_left 1; (focus (intro w hSw; (try dsimp only at hSw); go_simp; (try with_reducible rfl); done)); all_goals (try simp only [Act.put, List.setIfInBounds_toArray, List.set_cons_zero, List.set_cons_succ])))
  generalize hV : World.drew W = V1 at hHeld ⊢
  have vG : Grow W V1 := by rw [← hV]; exact (Grow.refl W).drew
  clear hV
  (refine wpAnyH_ready (rs := [9]) (by kernel_rfl) (by simp) ?_; refine AllReadyH.cons rfl (fun K hK => ?_) AllReadyH.nil; go_simp; (go_at_call 154; refine (l6Rivals_next (x := x) V1 (Kd.grow Kd.table HRD.out vG) (HRW.out.grow vG) (HV.out.grow (gW.trans vG)) HK.out hu3 HVL.out HRL.out hL60 HI.out).mono ?_; rintro e w2 ⟨P, l, c, rfl, hl, g2⟩; have G2 := vG.trans g2); refine hK.out _ _ (by exact Grow.both (by repeat (with_reducible first | exact Grow.refl _ | assumption | refine Grow.drew ?_ | refine Grow.alloc ?_ _ | refine Grow.set ?_ (by first | exact Nat.le_refl _ | (simp; done) | (simp; omega) | omega) _ | exact And.left (by assumption) | refine Grow.trans ?_ (by assumption)))) (fun hHeld => ?_); clear hK K; (try refine held_put 27 rfl ?_); (try simp only [Act.put, List.setIfInBounds_toArray, List.set_cons_zero, List.set_cons_succ]))
  ((refine tk 10 14 rfl rfl (v := ?_) ?_ ?_; rotate_left 1; (focus (intro w hSw; (try dsimp only at hSw); go_simp; (try with_reducible rfl); done)); all_goals (try simp only [Act.put, List.setIfInBounds_toArray, List.set_cons_zero, List.set_cons_succ])))
  refine wpAnyH_done (by kernel_rfl) ?_ _
  have GF := gW.trans G2
  clear x0 e0 e1 e2 e3 e4 e5 f0 hHeld
  by_cases hl0 : l = 0
  · subst hl0
    go_wp2_with fail
    go_loopw [1, 15, 16, 17] (fun bv iv _ _ wr => iv = .int .i64 0 ∧ bv = .slice (some ⟨bD, oD, none⟩) lb cb ∧ wr = w2) (fun _ _ _ _ _ => 0)
    case atStart => exact ⟨rfl, rfl, rfl⟩
    case round =>
      obtain ⟨rfl, rfl, rfl⟩ := hrel
      go_wp2
      go_ret2
      exact ⟨.inr rfl, GF⟩
  · have hl1 : (0 : Int) < (l : Int) := by omega
    go_wp2
    go_ret2
    exact ⟨.inl rfl, GF⟩
/-! ### SixN -/
theorem l6Ok_yes {A B : Option Addr} {la ca lb cb k : Nat} {s : List Table} {db : List Data} (w : World) (hs : IsSl Kd.table w (· < w.heap.size) A la ca s) (hd : IsSl Kd.data w (· < w.heap.size) B lb cb db) (hok : dbOkB s db = true) (hk : k < la) (h5 : la ≤ 5) :
    Calls Tryz.prog 48 #[.slice A la ca, .slice B lb cb, .int .i64 k] w (Ret w (.bool true)) := by
  have hin : inB (k : Int) 0 ((la : Int) - 1) = true := by simp [inB]; omega
  have HIN := Lib.hid hin
  clear hin
  go_enter Tryz.func48, Tryz.ntmps48
  go_wp2_with fail
  refine (sDbOkF_eq hok w hs hd).mono ?_
  rintro e w1 ⟨rfl, g1⟩
  go_wp2_with fail
  refine (l1In_eq HIN.out _).mono ?_
  rintro e w2 ⟨rfl, rfl⟩
  go_wp2
  go_ret
  exact ⟨rfl, g1⟩
/-- What l6Insert hands back. -/
def InsIn (s : List Table) (db : List Data) (k : Nat) (rows : List Row) (vals : List Val) (w : World) (e : Ending) (w' : World) : Prop := ∃ (P : Option Addr) (m c : Nat) (id code : Int), e = .returned (.tuple #[.slice P m c, .int .i64 id, .int .i64 code]) ∧ Grow w w' ∧
  (((code == 0) = false ∧ (code == 1) = false) ∨ (code = 0 ∧ m = db.length ∧ IsSl Kd.data w' (· < w'.heap.size) P m c (db.set k ⟨rows ++ [⟨nextV rows, vals⟩]⟩) ∧ nextV rows ≤ 1000000000 ∧ rows.length ≠ 60))
set_option maxHeartbeats 8000000 in
set_option maxRecDepth 20000 in
theorem l6Insert_next {A B V : Option Addr} {la ca lb cb lv cv k : Nat} {s : List Table} {db : List Data} {vals : List Val} {t : Table} {d : Data} (w : World) (hs : IsSl Kd.table w (· < w.heap.size) A la ca s) (hd : IsSl Kd.data w (· < w.heap.size) B lb cb db) (hv : IsSl Kd.val w (· < w.heap.size) V lv cv vals)
    (hok : dbOkB s db = true) (ht : s[k]? = some t) (hdk : db[k]? = some d) (hfit : fitB t.cols vals = true) :
    Calls Tryz.prog 66 #[.slice A la ca, .slice B lb cb, .int .i64 k, .slice V lv cv, .bool false] w (InsIn s db k d.rows vals w) := by
  obtain ⟨hT, hRows⟩ := tab_in hok hdk ht
  have hka : k < la := by rw [← hs.1]; exact (List.getElem?_eq_some_iff.mp ht).1
  have hkb : k < lb := by rw [← hd.1]; exact (List.getElem?_eq_some_iff.mp hdk).1
  have h5 : lb ≤ 5 := by
    have h1 := hok
    simp only [dbOkB, Bool.and_eq_true] at h1
    rw [← hd.1, db_len h1.2]; exact schemaOk_len h1.1
  have h8 := (tableOk_cols hT).2
  have hvl := fit_len hfit
  have hlv : lv ≤ 8 := by rw [← hv.1]; omega
  have hokv := fit_ok hfit h8
  obtain ⟨t'', ht'', _, h60, hfits⟩ := db_table hok hdk
  obtain rfl : t'' = t := Option.some.inj (ht''.symm.trans ht)
  obtain ⟨hKI, hu3⟩ := keysIn_of hT
  have hps := next_pos hRows
  have HNX := Lib.hid (rows_next hRows)
  have HIDS := Lib.hid (show ∀ r ∈ d.rows, 1 ≤ r.id ∧ r.id ≤ 1000000000 from fun r hr => by
    obtain ⟨i, hi, rfl⟩ := List.getElem_of_mem hr
    exact rows_id hRows (List.getElem?_eq_getElem hi))
  have HRL := Lib.hid (show ∀ r ∈ d.rows, r.vals.length = t''.cols.length from fun r hr => fit_len (hfits r hr))
  have HEX := Lib.hid (row_checksN hT hfit).2
  have HPUT := Lib.hid (fun h1 h2 => put_ok hok hdk ht hfit h1 h2)
  have HFK := Lib.hid (show ∀ db', dbOkB s db' = true → ∀ f ∈ t''.fks, FkIn s db' lv f from fun db' h f hf => by
    have := fkIn_of h ht hf
    rw [← hvl, hv.1] at this
    exact this)
  have i0 : (0 : Int) ≤ (k : Int) := Int.natCast_nonneg k
  have i1 : (k : Int) < (la : Int) := Int.ofNat_lt.mpr hka
  have i2 : (k : Int) < (lb : Int) := Int.ofNat_lt.mpr hkb
  have HS := Lib.hid hs
  have HD := Lib.hid hd
  have HV := Lib.hid hv
  have HK := Lib.hid hKI
  have HVL := Lib.hid hvl
  have HOKV := Lib.hid hokv
  have HTT := Lib.hid ht
  have HDD := Lib.hid hdk
  have HDL := Lib.hid hd.1
  have H60 := Lib.hid h60
  obtain ⟨nid, hnid⟩ : ∃ z, nextV d.rows = z := ⟨_, rfl⟩
  have HNID := Lib.hid hnid
  rw [hnid] at hps
  obtain ⟨a, ha⟩ : ∃ a, noNullB t''.cols vals = a := ⟨_, rfl⟩
  obtain ⟨b, hb⟩ : ∃ b, checkedB t'' vals = b := ⟨_, rfl⟩
  have HA := Lib.hid ha
  have HB := Lib.hid hb
  obtain ⟨bT, oT, t', T0, p0, m0, T1, p1, m1, T2, p2, m2, T3, p3, m3, T4, p4, m4, rfl, hx, hST, hbT, hnm, e0, e1, e2, e3, e4, e5, _, _, _, _, _, hrd⟩ := table_at hs hka
  obtain rfl : t' = t'' := Option.some.inj (hx.out.symm.trans ht)
  obtain ⟨bD, oD, d', Ar, Lr, Cr, rfl, hxd, hSD, hbD, f0, hrows, _⟩ := data_at hd hkb
  obtain rfl : d' = d := Option.some.inj (hxd.out.symm.trans hdk)
  have HRD := Lib.hid hrd
  have HRW := Lib.hid hrows
  have hL60 : Lr ≤ 60 := by rw [← hrows.1]; exact h60
  clear hs hd hv hok ht hdk hfit hT hRows h8 hvl hokv hfits hKI ht'' ha hb hrd hrows hx hxd hnid h60
  go_enter Tryz.func66, Tryz.ntmps66
  go_wp2_with fail
  generalize hW : World.alloc w _ = W
  obtain ⟨gW, sW, b0⟩ := boxedB hW
  clear hW
  obtain ⟨r0, hr0⟩ : ∃ r, (if a = false then (2 : Int) else if b = false then 3 else 0) = r := ⟨_, rfl⟩
  refine (l6Able_any HA.out HB.out hr0 W (Kd.grow Kd.table HRD.out gW) (HV.out.grow gW) HVL.out HOKV.out HEX.out).mono ?_
  rintro e w1 ⟨rfl, g1⟩
  have G1 := gW.trans g1
  cases a with
  | false =>
    obtain rfl : r0 = 2 := hr0.symm
    go_wp2
    go_ret3
    exact ⟨none, 0, 0, 0, 2, rfl, G1, .inl ⟨rfl, rfl⟩⟩
  | true =>
    cases b with
    | false =>
      obtain rfl : r0 = 3 := hr0.symm
      go_wp2
      go_ret3
      exact ⟨none, 0, 0, 0, 3, rfl, G1, .inl ⟨rfl, rfl⟩⟩
    | true =>
      obtain rfl : r0 = 0 := hr0.symm
      clear hr0
      have f1 := (G1.same bD (oD + k) hbD).trans f0
      have hb1 := Nat.lt_of_lt_of_le hbD G1.size
      go_wp2_with fail
      refine (l6Next_any w1 (HRW.out.grow G1) hL60 HIDS.out).mono ?_
      rw [HNID.out]
      rintro e w2 ⟨rfl, g2⟩
      have G2 := G1.trans g2
      go_wp2_with fail
      refine (l1CopyVals_any w2 (HV.out.grow G2) (by omega)).mono ?_
      rintro e w3 ⟨V3, v3, rfl, ownv⟩
      have g3 := ownv.grows
      have G3 := G2.trans g3
      have HV3 := Lib.hid (ownv.isSl.mono (S' := (· < w3.heap.size)) (fun y hy => hy.2.1) (fun _ _ => rfl))
      clear ownv
      go_wp2_with fail
      generalize hW4 : World.alloc w3 _ = w4
      obtain ⟨g4, s4, q4⟩ := boxedB hW4
      clear hW4
      have G4 := G3.trans g4
      refine (l6Clear_next (x := ⟨nid, vals⟩) w4 (HS.out.grow G4) (HD.out.grow G4) (HV3.out.grow g4) HTT.out HDD.out HK.out hu3 HVL.out HRL.out H60.out (by have := HNX.out; rw [HNID.out] at this; exact this)).mono ?_
      rintro e w5 ⟨hcl, g5⟩
      have G5 := G4.trans g5
      rcases hcl with rfl | rfl
      · go_wp2
        go_ret3
        exact ⟨none, 0, 0, 0, 4, rfl, G5, .inl ⟨rfl, rfl⟩⟩
      · have q5 := (g5.block s4).trans q4
        have s5 := Nat.lt_of_lt_of_le s4 g5.size
        have z0 := (free_of q5).1 0
        have z1 := (free_of q5).1 1
        have f5 := (G5.same bD (oD + k) hbD).trans f0
        have hb5 := Nat.lt_of_lt_of_le hbD G5.size
        by_cases hfull : Lr = 60
        · subst hfull
          clear f1 hb1
          go_wp2
          go_ret3
          exact ⟨none, 0, 0, 0, 7, rfl, G5, .inl ⟨rfl, rfl⟩⟩
        · have j60 : ((Lr : Int) == 60) = false := by simp; omega
          by_cases hbig : (1000000000 : Int) < nid
          · clear f1 hb1
            go_wp2
            go_ret3
            exact ⟨none, 0, 0, 0, 7, rfl, G5, .inl ⟨rfl, rfl⟩⟩
          · clear f1 hb1
            have hn60 : d'.rows.length ≠ 60 := by rw [HRW.out.1]; exact hfull
            have hnle : nextV d'.rows ≤ 1000000000 := by rw [HNID.out]; omega
            obtain ⟨hpe, hpo⟩ := HPUT.out hn60 hnle
            rw [hpe] at hpo
            have HPO := Lib.hid hpo
            clear hpe hpo
            go_wp2_with fail
            refine wp_region_held_drew (S := (fun w' => Grow w5 w' ∧ Same w5 w')) (by kernel_rfl) (by exact Grow.both (by repeat (with_reducible first | exact Grow.refl _ | assumption | refine Grow.drew ?_ | refine Grow.alloc ?_ _ | refine Grow.set ?_ (by first | exact Nat.le_refl _ | (simp; done) | (simp; omega) | omega) _ | exact And.left (by assumption) | refine Grow.trans ?_ (by assumption)))) (fun hHeld => ?_)
            ((refine tk 0 62 rfl rfl (v := ?_) ?_ ?_; rotate_left 1; (focus (intro w hSw; (try dsimp only at hSw); go_simp; (try with_reducible rfl); done)); all_goals (try simp only [Act.put, List.setIfInBounds_toArray, List.set_cons_zero, List.set_cons_succ])); (refine tk 1 63 rfl rfl (v := ?_) ?_ ?_; rotate_left 1; (focus (intro w hSw; (try dsimp only at hSw); go_simp; (try with_reducible rfl); done)); all_goals (try simp only [Act.put, List.setIfInBounds_toArray, List.set_cons_zero, List.set_cons_succ])); (refine tk 2 64 rfl rfl (v := ?_) ?_ ?_; rotate_left 1; (focus (intro w hSw; (try dsimp only at hSw); go_simp; (try with_reducible rfl); done)); all_goals (try simp only [Act.put, List.setIfInBounds_toArray, List.set_cons_zero, List.set_cons_succ])); (refine tk 3 65 rfl rfl (v := ?_) ?_ ?_; rotate_left 1; (focus (intro w hSw; (try dsimp only at hSw); go_simp; (try with_reducible rfl); done)); all_goals (try simp only [Act.put, List.setIfInBounds_toArray, List.set_cons_zero, List.set_cons_succ])); (refine tk 4 66 rfl rfl (v := ?_) ?_ ?_; rotate_left 1; (focus (intro w hSw; (try dsimp only at hSw); go_simp; (try with_reducible rfl); done)); all_goals (try simp only [Act.put, List.setIfInBounds_toArray, List.set_cons_zero, List.set_cons_succ])); (refine tk 5 67 rfl rfl (v := ?_) ?_ ?_; rotate_left 1; (focus (intro w hSw; (try dsimp only at hSw); go_simp; (try with_reducible rfl); done)); all_goals (try simp only [Act.put, List.setIfInBounds_toArray, List.set_cons_zero, List.set_cons_succ])); (refine tk 6 68 rfl rfl (v := ?_) ?_ ?_; rotate_left 1; (focus (intro w hSw; (try dsimp only at hSw); go_simp; (try with_reducible rfl); done)); all_goals (try simp only [Act.put, List.setIfInBounds_toArray, List.set_cons_zero, List.set_cons_succ])))
            generalize hV : World.drew w5 = V5 at hHeld ⊢
            have vG : Grow w5 V5 := by rw [← hV]; exact (Grow.refl w5).drew
            clear hV
            have GV := G5.trans vG
            (refine wpAnyH_ready (rs := [7]) (by kernel_rfl) (by simp) ?_; refine AllReadyH.cons rfl (fun K hK => ?_) AllReadyH.nil; go_simp; (go_at_call 121; refine (l4Put_next (x := ⟨nid, vals⟩) V5 (HRW.out.grow GV) (HV3.out.grow (g4.trans (g5.trans vG))) hL60 (by have := HNX.out; rw [HNID.out] at this; exact this)).mono ?_; rintro e w6 ⟨R6, m6, rfl, h6, g6⟩; have GV6 := vG.trans g6); refine hK.out _ _ (by exact Grow.both (by repeat (with_reducible first | exact Grow.refl _ | assumption | refine Grow.drew ?_ | refine Grow.alloc ?_ _ | refine Grow.set ?_ (by first | exact Nat.le_refl _ | (simp; done) | (simp; omega) | omega) _ | exact And.left (by assumption) | refine Grow.trans ?_ (by assumption)))) (fun hHeld => ?_); clear hK K; (try refine held_put 69 rfl ?_); (try simp only [Act.put, List.setIfInBounds_toArray, List.set_cons_zero, List.set_cons_succ]))
            have G6 := G5.trans GV6
            (refine wpAnyH_ready (rs := [8]) (by kernel_rfl) (by simp) ?_; refine AllReadyH.cons rfl (fun K hK => ?_) AllReadyH.nil; go_simp; (go_at_call 102; refine (l4With_any (k := k) rfl w6 (HD.out.grow G6) h6 hkb h5).mono ?_; rintro e w7 ⟨D7, m7, rfl, h7, g7⟩; have GV7 := GV6.trans g7); refine hK.out _ _ (by exact Grow.both (by repeat (with_reducible first | exact Grow.refl _ | assumption | refine Grow.drew ?_ | refine Grow.alloc ?_ _ | refine Grow.set ?_ (by first | exact Nat.le_refl _ | (simp; done) | (simp; omega) | omega) _ | exact And.left (by assumption) | refine Grow.trans ?_ (by assumption)))) (fun hHeld => ?_); clear hK K; (try refine held_put 70 rfl ?_); (try simp only [Act.put, List.setIfInBounds_toArray, List.set_cons_zero, List.set_cons_succ]))
            ((refine tk 9 1 rfl rfl (v := ?_) ?_ ?_; rotate_left 1; (focus (intro w hSw; (try dsimp only at hSw); go_simp; (try with_reducible rfl); done)); all_goals (try simp only [Act.put, List.setIfInBounds_toArray, List.set_cons_zero, List.set_cons_succ])))
            refine wpAnyH_done (by kernel_rfl) ?_ _
            have G7 := G5.trans GV7
            have y0 := (GV7.same w3.heap.size 0 s5).trans z0
            have y1 := (GV7.same w3.heap.size 1 s5).trans z1
            have s7 := Nat.lt_of_lt_of_le s5 GV7.size
            obtain ⟨r, hr⟩ : ∃ r, lostRow s (db.set k ⟨d'.rows ++ [⟨nid, vals⟩]⟩) t' vals (!true) = r := ⟨_, rfl⟩
            have HRR := Lib.hid hr
            have H7 := Lib.hid h7
            clear hr h7 h6 z0 z1 f5 hHeld
            go_wp2_with fail
            refine (l5Refers_eq HRR.out w7 (HS.out.grow G7) H7.out (HV3.out.grow ((g4.trans g5).trans GV7)) HTT.out (HFK.out _ (by have := HPO.out; rw [HNID.out] at this; exact this))).mono ?_
            rintro e w8 ⟨rfl, g8⟩
            have x0 := (g8.same w3.heap.size 0 s7).trans y0
            have s8 := Nat.lt_of_lt_of_le s7 g8.size
            cases r with
            | true =>
              go_wp2
              go_ret3
              exact ⟨none, 0, 0, 0, 5, rfl, G7.trans g8, .inl ⟨rfl, rfl⟩⟩
            | false =>
              go_wp2_with fail
              go_region_held3 (fun w' => Grow w8 w' ∧ Same w8 w') (exact Grow.both (by repeat (with_reducible first | exact Grow.refl _ | assumption | refine Grow.drew ?_ | refine Grow.alloc ?_ _ | refine Grow.set ?_ (by first | exact Nat.le_refl _ | (simp; done) | (simp; omega) | omega) _ | exact And.left (by assumption) | refine Grow.trans ?_ (by assumption)))) (skip)
              go_wp2
              go_ret3
              exact ⟨D7, lb, m7, nid, 0, rfl, (G7.trans g8).drew, .inr ⟨rfl, HDL.out.symm, by rw [HNID.out]; exact H7.out.grow g8.drew, by rw [HNID.out]; omega, hn60⟩⟩
/-! ### SixM -/
theorem db_small {s : List Table} {db : List Data} (h : dbOkB s db = true) : db.length ≤ 5 ∧ ∀ d ∈ db, d.rows.length ≤ 60 ∧ ∀ r ∈ d.rows, r.vals.length ≤ 8 := by
  have h1 := h
  simp only [dbOkB, Bool.and_eq_true] at h1
  refine ⟨by rw [db_len h1.2]; exact schemaOk_len h1.1, fun d hd => ?_⟩
  obtain ⟨i, hi, rfl⟩ := List.getElem_of_mem hd
  obtain ⟨t, ht, hT, h60, hf⟩ := db_table h (List.getElem?_eq_getElem hi)
  exact ⟨h60, fun r hr => by rw [fit_len (hf r hr)]; exact (tableOk_cols hT).2⟩
def InsRes (s : List Table) (w : World) (e : Ending) (w' : World) : Prop := ∃ (P : Option Addr) (m c : Nat) (id code : Int) (db' : List Data), e = .returned (.tuple #[.slice P m c, .int .i64 id, .int .i64 code]) ∧ Grow w w' ∧
  ((code == 1) = true ∨ ((code == 1) = false ∧ IsSl Kd.data w' (Fresh w.heap.size w') P m c db' ∧ dbOkB s db' = true))
set_option maxHeartbeats 4000000 in
set_option maxRecDepth 20000 in
theorem insertRow_any {A B V : Option Addr} {la ca lb cb lv cv k : Nat} {s : List Table} {db : List Data} {vals : List Val} (w : World) (hs : IsSl Kd.table w (· < w.heap.size) A la ca s) (hd : IsSl Kd.data w (· < w.heap.size) B lb cb db) (hv : IsSl Kd.val w (· < w.heap.size) V lv cv vals)
    (hok : dbOkB s db = true) (hk : k < la) :
    Calls Tryz.prog 27 #[.slice A la ca, .slice B lb cb, .int .i64 k, .slice V lv cv, .bool false] w (InsRes s w) := by
  have hsm := db_small hok
  have hlen : db.length = s.length := by have h1 := hok; simp only [dbOkB, Bool.and_eq_true] at h1; exact db_len h1.2
  have hla : la ≤ 5 := by rw [← hs.1, ← hlen]; exact hsm.1
  have hlb : lb ≤ 5 := by rw [← hd.1]; exact hsm.1
  have hkb : k < lb := by rw [← hd.1, hlen, hs.1]; exact hk
  have i0 : (0 : Int) ≤ (k : Int) := Int.natCast_nonneg k
  have i1 : (k : Int) < (la : Int) := Int.ofNat_lt.mpr hk
  obtain ⟨bT, oT, t, T0, p0, m0, T1, p1, m1, T2, p2, m2, T3, p3, m3, T4, p4, m4, rfl, hx, hST, hbT, hnm, e0, e1, e2, e3, e4, e5, _, _, _, _, _, hrd⟩ := table_at hs hk
  obtain ⟨d, hdk⟩ : ∃ d, db[k]? = some d := ⟨_, List.getElem?_eq_getElem (by rw [hd.1]; exact hkb)⟩
  have HS := Lib.hid hs
  have HD := Lib.hid hd
  have HV := Lib.hid hv
  have HOK := Lib.hid hok
  have HRD := Lib.hid hrd
  have HX := Lib.hid hx.out
  have HDK := Lib.hid hdk
  have HSM := Lib.hid hsm
  obtain ⟨q, hq⟩ : ∃ q, fitB t.cols vals = q := ⟨_, rfl⟩
  have HQ := Lib.hid hq
  clear hs hd hv hok hrd hx hdk hsm hq hlen
  go_enter Tryz.func27, Tryz.ntmps27
  go_wp2_with fail
  refine (l6Ok_yes w HS.out HD.out HOK.out hk hla).mono ?_
  rintro e w1 ⟨rfl, g1⟩
  have y0 := (g1.same bT _ hbT).trans e0
  have y1 := (g1.same bT _ hbT).trans e1
  have y2 := (g1.same bT _ hbT).trans e2
  have y3 := (g1.same bT _ hbT).trans e3
  have y4 := (g1.same bT _ hbT).trans e4
  have y5 := (g1.same bT _ hbT).trans e5
  have hb1 := Nat.lt_of_lt_of_le hbT g1.size
  clear e0 e1 e2 e3 e4 e5
  go_wp2_with fail
  refine (l4Kinds_eq HQ.out w1 (Kd.grow Kd.table HRD.out g1) (HV.out.grow g1)).mono ?_
  rintro e w2 ⟨rfl, g2⟩
  have G2 := g1.trans g2
  clear y0 y1 y2 y3 y4 y5
  cases q with
  | false =>
    go_wp2
    go_ret3
    exact ⟨none, 0, 0, 0, 1, [], rfl, G2, .inl rfl⟩
  | true =>
    go_wp2_with fail
    refine (l6Insert_next w2 (HS.out.grow G2) (HD.out.grow G2) (HV.out.grow G2) HOK.out HX.out HDK.out HQ.out).mono ?_
    rintro e w3 ⟨P, m, c, id, code, rfl, g3, hcode⟩
    have G3 := G2.trans g3
    rcases hcode with ⟨c0, c1⟩ | ⟨rfl, hm, hsl, hid, h60⟩
    · have c2 : (code != 0) = true := by simpa using c0
      have HC := l4Copy_any w3 (HD.out.grow G3) hlb HSM.out.2
      go_wp2_with fail
      refine HC.mono ?_
      rintro e w4 ⟨P4, rfl, h4, g4⟩
      go_wp2
      go_ret3
      exact ⟨P4, lb, lb, 0, code, db, rfl, G3.trans g4, .inr ⟨c1, h4.lower G3.size, HOK.out⟩⟩
    · obtain ⟨hpe, hpo⟩ := put_ok HOK.out HDK.out HX.out HQ.out h60 hid
      rw [hpe] at hpo
      obtain ⟨db2, hdb2⟩ : ∃ x, db.set k ⟨d.rows ++ [⟨nextV d.rows, vals⟩]⟩ = x := ⟨_, rfl⟩
      rw [hdb2] at hsl hpo
      have HPO := Lib.hid hpo
      have hsm2 := db_small hpo
      have hm5 : m ≤ 5 := by rw [hm]; exact HSM.out.1
      have HSM2 := Lib.hid hsm2
      have HC := l4Copy_any w3 hsl hm5 HSM2.out.2
      clear hpe hpo hsm2 hdb2 hid h60 hsl hm
      go_wp2_with fail
      refine HC.mono ?_
      rintro e w4 ⟨P4, rfl, h4, g4⟩
      go_wp2
      go_ret3
      exact ⟨P4, m, m, id, 0, _, rfl, G3.trans g4, .inr ⟨rfl, h4.lower G3.size, HPO.out⟩⟩
end Go.Proofs.YtjeilgogjoidjaaGreat
