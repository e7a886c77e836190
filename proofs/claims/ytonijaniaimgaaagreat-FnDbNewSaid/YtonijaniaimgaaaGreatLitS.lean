import Derived.Test.YtonijaniaimgaaaGreatLit
import Derived.Test.YtonijaniaimgaaaGreatMarkS
/-! Stores that keep of each cell its kind: a slice of one's own still reads. -/
namespace Go.Proofs.YtonijaniaimgaaaGreat
open Go.RowKit
set_option linter.unusedVariables false
set_option linter.unusedSimpArgs false
theorem simL_append {cs rest rows' : List Value} (h : SimL (cs ++ rest) rows') : ∃ cs' rest', rows' = cs' ++ rest' ∧ SimL cs cs' ∧ SimL rest rest' := by
  obtain ⟨hl, hv⟩ := h
  rw [List.length_append] at hl
  refine ⟨rows'.take cs.length, rows'.drop cs.length, (List.take_append_drop _ _).symm, ⟨by rw [List.length_take]; omega, fun i v hi => ?_⟩, ⟨by rw [List.length_drop]; omega, fun i v hi => ?_⟩⟩
  · have hlt := (List.getElem?_eq_some_iff.mp hi).1
    obtain ⟨v', h1, h2⟩ := hv i v (by rw [List.getElem?_append_left hlt]; exact hi)
    exact ⟨v', by rw [List.getElem?_take_of_lt hlt]; exact h1, h2⟩
  · obtain ⟨v', h1, h2⟩ := hv (cs.length + i) v (by rw [List.getElem?_append_right (by omega), Nat.add_sub_cancel_left]; exact hi)
    exact ⟨v', by rw [List.getElem?_drop]; exact h1, h2⟩
theorem flat_sims {α : Type} {k : Kd α} {c : α → Nat} (hk : Sims k c) {w w' : World} {S S' : Nat → Prop} (hs : Sim w w') (hS : ∀ b, S b → S' b) : ∀ {rows rows' : List Value} {xs : List α}, Flat k w S rows xs → SimL rows rows' → ∃ ys, Flat k w' S' rows' ys ∧ ys.map c = xs.map c
  | rows, rows', [], h, hl => by
    obtain rfl : rows = [] := h
    obtain rfl := hl.nil
    exact ⟨[], rfl, rfl⟩
  | rows, rows', x :: xs, ⟨cs, rest, h, hr, hf⟩, hl => by
    subst h
    obtain ⟨cs', rest', rfl, h1, h2⟩ := simL_append hl
    obtain ⟨y, hy, hc⟩ := hk w w' S S' cs cs' x hr hs h1 hS
    obtain ⟨ys, hf', hm⟩ := flat_sims hk hs hS hf h2
    exact ⟨y :: ys, ⟨cs', rest', rfl, hy, hf'⟩, by simp [hc, hm]⟩
theorem simS_v {u v : Value} (h : SimS u v) : SimV u v := .inr h
theorem OwnG.simPut {α : Type} {k : Kd α} {cnt : α → Nat} (hk : Sims k cnt) {E : TypeId} {B : Nat} {w : World} {A : Option Addr} {n c : Nat} {xs : List α} (h : OwnG k E B w A n c xs) {q o : Nat} {u v : Value} (hu : w.cell? ⟨q, o, none⟩ = some u) (hs : SimS u v) :
    ∃ ys, OwnG k E B (w.setCell ⟨q, o, none⟩ v) A n c ys ∧ ys.map cnt = xs.map cnt := by
  have hsim : Sim w (w.setCell ⟨q, o, none⟩ v) := Sim.put hu (simS_v hs)
  have hsz : (w.setCell ⟨q, o, none⟩ v).heap.size = w.heap.size := by simp [World.setCell]
  obtain ⟨cc, tt, fr, hq, hco⟩ := cell_inv hu
  have hfz : ∀ b o', (w.setCell ⟨q, o, none⟩ v).frozen? ⟨b, o', none⟩ = w.frozen? ⟨b, o', none⟩ := fun b o' => by
    by_cases hb : b = q
    · subst hb
      simp [World.frozen?, put_own hq, hq]
    · have he : (w.setCell ⟨q, o, none⟩ v).heap[b]? = w.heap[b]? := Below.heap_setCell _ _ _ _ hb
      simp [World.frozen?, he]
  have hled : ∀ b, Led B w A b → Led B (w.setCell ⟨q, o, none⟩ v) A b := fun b hb => ⟨⟨hb.1.1, by rw [hsz]; exact hb.1.2.1, fun o' => (hfz b o').trans (hb.1.2.2 o')⟩, hb.2⟩
  obtain ⟨rows, ⟨hr, h0 | ⟨g, cap', cur, hv, hB, hh, hle, hmx, hz, ht⟩⟩, h2, h3⟩ := h
  · obtain ⟨h0, rfl⟩ := h0
    obtain rfl : rows = [] := List.eq_nil_of_length_eq_zero (by simpa using hr)
    obtain rfl : xs = [] := List.eq_nil_of_length_eq_zero h3
    exact ⟨[], ⟨[], ⟨by simp, .inl ⟨h0, rfl⟩⟩, rfl, rfl⟩, rfl⟩
  · obtain ⟨cur', hh', hz', hc'⟩ : ∃ cur' : Array Value, (w.setCell ⟨q, o, none⟩ v).heap[g]? = some (.cells cur' E (0, 0)) ∧ cur'.size = cur.size ∧ ∀ i x, cur[i]? = some x → ∃ x', cur'[i]? = some x' ∧ SimV x x' := by
      by_cases hg : g = q
      · subst hg
        rw [hh] at hq
        simp only [Option.some.injEq, Obj.cells.injEq] at hq
        obtain ⟨rfl, _⟩ := hq
        refine ⟨_, put_own hh o v, by simp, fun i x hx => ?_⟩
        by_cases hio : o = i
        · subst hio
          obtain rfl : u = x := Option.some.inj (hco.symm.trans hx)
          exact ⟨v, by rw [Array.getElem?_setIfInBounds_self, if_pos (Array.getElem?_eq_some_iff.mp hco).1], simS_v hs⟩
        · exact ⟨x, by rw [Array.getElem?_setIfInBounds_ne hio]; exact hx, SimV.refl x⟩
      · exact ⟨cur, by rw [Below.heap_setCell _ _ _ _ hg]; exact hh, rfl, fun i x hx => ⟨x, hx, SimV.refl x⟩⟩
    have hsl : SimL rows (cur'.toList.take (n * k.n)) := by
      refine ⟨by rw [← ht, List.length_take, List.length_take, Array.length_toList, Array.length_toList, hz'], fun i x hx => ?_⟩
      have hlt := (List.getElem?_eq_some_iff.mp hx).1
      rw [hr] at hlt
      rw [← ht, List.getElem?_take_of_lt hlt, Array.getElem?_toList] at hx
      obtain ⟨x', h1, h2⟩ := hc' i x hx
      exact ⟨x', by rw [List.getElem?_take_of_lt hlt, Array.getElem?_toList]; exact h1, h2⟩
    obtain ⟨ys, hf, hm⟩ := flat_sims hk hsim hled h2 hsl
    exact ⟨ys, ⟨_, ⟨hsl.1.symm.trans hr, .inr ⟨g, cap', cur', hv, hB, hh', hle, hmx, by rw [hz', hz], rfl⟩⟩, hf, by have := congrArg List.length hm; simp at this; omega⟩, hm⟩

theorem simsLen_table : Sims Kd.table (fun t => t.cols.length) := fun w w' S S' cs cs' a hr hs hl hS => by
  obtain ⟨Acols, Lcols, Ccols, Akey, Lkey, Ckey, Auniques, Luniques, Cuniques, Achecks, Lchecks, Cchecks, Afks, Lfks, Cfks, rfl, zname, scols, skey, suniques, schecks, sfks⟩ := hr
  obtain ⟨v0, _, rfl, q0, hl⟩ := hl.cons
  obtain ⟨v1, _, rfl, q1, hl⟩ := hl.cons
  obtain ⟨v2, _, rfl, q2, hl⟩ := hl.cons
  obtain ⟨v3, _, rfl, q3, hl⟩ := hl.cons
  obtain ⟨v4, _, rfl, q4, hl⟩ := hl.cons
  obtain ⟨v5, _, rfl, q5, hl⟩ := hl.cons
  obtain rfl := hl.nil
  obtain ⟨m0, rfl, y0⟩ := q0.str zname
  obtain rfl := q1.slice
  obtain ⟨lcols, tcols, ecols⟩ := scols.sim sims_col hs hS
  obtain rfl := q2.slice
  obtain ⟨lkey, tkey, ekey⟩ := skey.sim sims_int hs hS
  obtain rfl := q3.slice
  obtain ⟨luniques, tuniques, euniques⟩ := suniques.sim sims_unique hs hS
  obtain rfl := q4.slice
  obtain ⟨lchecks, tchecks, echecks⟩ := schecks.sim sims_check hs hS
  obtain rfl := q5.slice
  obtain ⟨lfks, tfks, efks⟩ := sfks.sim sims_fk hs hS
  exact ⟨⟨m0, lcols, lkey, luniques, lchecks, lfks⟩, ⟨Acols, Lcols, Ccols, Akey, Lkey, Ckey, Auniques, Luniques, Cuniques, Achecks, Lchecks, Cchecks, Afks, Lfks, Cfks, rfl, y0, tcols, tkey, tuniques, tchecks, tfks⟩, by have := congrArg List.length ecols; simpa using this⟩
end Go.Proofs.YtonijaniaimgaaaGreat
