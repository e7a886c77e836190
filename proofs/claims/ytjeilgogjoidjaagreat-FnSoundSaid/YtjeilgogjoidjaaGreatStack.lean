import Derived.Test.YtjeilgogjoidjaaGreatFill
/-! Slices of the call's own that are appended to. -/
namespace Go.Proofs.YtjeilgogjoidjaaGreat
open Go.RowKit
set_option linter.unusedVariables false
set_option linter.unusedSimpArgs false

/-- The cells, one element behind the other, read as xs. -/
def Flat {α : Type} (k : Kd α) (w : World) (S : Nat → Prop) : List Value → List α → Prop
  | rows, [] => rows = []
  | rows, x :: xs => ∃ cs rest, rows = cs ++ rest ∧ k.rd w S cs x ∧ Flat k w S rest xs
theorem Flat.length {α : Type} {k : Kd α} {w : World} {S : Nat → Prop} : ∀ {rows : List Value} {xs : List α}, Flat k w S rows xs → rows.length = xs.length * k.n
  | _, [], h => by rw [show _ = [] from h]; simp
  | _, x :: xs, ⟨cs, rest, h, hr, hf⟩ => by
    rw [h, List.length_append, k.len hr, hf.length, List.length_cons, Nat.add_mul, Nat.one_mul, Nat.add_comm]
theorem Flat.mono {α : Type} {k : Kd α} {w w' : World} {S S' : Nat → Prop} (hS : ∀ b, S b → S' b) (hw : ∀ b, S b → w'.heap[b]? = w.heap[b]?) : ∀ {rows : List Value} {xs : List α}, Flat k w S rows xs → Flat k w' S' rows xs
  | _, [], h => h
  | _, _ :: _, ⟨cs, rest, h, hr, hf⟩ => ⟨cs, rest, h, k.mono hr hS hw, hf.mono hS hw⟩
theorem Flat.get {α : Type} {k : Kd α} {w : World} {S : Nat → Prop} : ∀ {rows : List Value} {xs : List α} {i : Nat} {x : α}, Flat k w S rows xs → xs[i]? = some x → ∃ cs, (∀ j, j < k.n → rows[i * k.n + j]? = cs[j]?) ∧ k.rd w S cs x
  | _, [], _, _, _, hx => by simp at hx
  | _, y :: xs, 0, x, ⟨cs, rest, h, hr, hf⟩, hx => by
    simp at hx; subst hx
    exact ⟨cs, fun j hj => by rw [h, Nat.zero_mul, Nat.zero_add, List.getElem?_append_left (by rw [k.len hr]; exact hj)], hr⟩
  | _, y :: xs, i + 1, x, ⟨cs, rest, h, hr, hf⟩, hx => by
    simp at hx
    obtain ⟨cs', hc, hr'⟩ := hf.get hx
    refine ⟨cs', fun j hj => ?_, hr'⟩
    rw [h, Nat.add_mul, Nat.one_mul, List.getElem?_append_right (by rw [k.len hr]; omega), k.len hr, ← hc j hj]
    congr 1
    omega
theorem Flat.append {α : Type} {k : Kd α} {w : World} {S : Nat → Prop} {cs : List Value} {x : α} (hr : k.rd w S cs x) : ∀ {rows : List Value} {xs : List α}, Flat k w S rows xs → Flat k w S (rows ++ cs) (xs ++ [x])
  | _, [], h => ⟨cs, [], by rw [show _ = [] from h]; simp, hr, rfl⟩
  | _, _ :: _, ⟨cs', rest, h, hr', hf⟩ => ⟨cs', rest ++ cs, by rw [h, List.append_assoc], hr', hf.append hr⟩
theorem Flat.take {α : Type} {k : Kd α} {w : World} {S : Nat → Prop} : ∀ {rows : List Value} {xs : List α} (m : Nat), Flat k w S rows xs → Flat k w S (rows.take (m * k.n)) (xs.take m)
  | _, [], m, h => by rw [show _ = [] from h]; simp [Flat]
  | _, x :: xs, 0, _ => by simp [Flat]
  | _, x :: xs, m + 1, ⟨cs, rest, h, hr, hf⟩ => by
    refine ⟨cs, rest.take (m * k.n), ?_, hr, hf.take m⟩
    rw [h, Nat.add_mul, Nat.one_mul, List.take_append, k.len hr, List.take_of_length_le (by rw [k.len hr]; omega)]
    congr 2
    omega
/-- A slice of the call's own reads as what its cells read as. -/
theorem own_isSl {α : Type} {k : Kd α} {w : World} {S S' : Nat → Prop} {B : Nat} {E : TypeId} {A : Option Addr} {len cap : Nat} {rows : List Value} {xs : List α} (h : w.ownsRow B E k.n (.slice A len cap) len rows) (hf : Flat k w S rows xs)
    (hl : xs.length = len) (hS : ∀ b, S b → S' b) (hB : ∀ b, B ≤ b → b < w.heap.size → (∀ o, w.frozen? ⟨b, o, none⟩ = false) → S' b) : IsSl k w S' A len cap xs := by
  obtain ⟨_, ⟨hv, h0⟩ | ⟨g, cap', cur, hv, hg, hh, hle, hm, hs, ht⟩⟩ := h
  · simp only [Value.slice.injEq] at hv
    obtain ⟨rfl, rfl, rfl⟩ := hv
    exact ⟨hl, Nat.le_refl _, Nat.zero_le _, fun h => absurd h (Nat.lt_irrefl _)⟩
  · simp only [Value.slice.injEq] at hv
    obtain ⟨rfl, _, rfl⟩ := hv
    have hlt : g < w.heap.size := by
      rcases Nat.lt_or_ge g w.heap.size with h' | h'
      · exact h'
      · simp [Array.getElem?_eq_none h'] at hh
    refine ⟨hl, hle, hm, fun _ => ⟨g, 0, rfl, hB g hg hlt (free_of hh).2, fun i hi => ?_⟩⟩
    obtain ⟨cs, hc, hr⟩ := hf.get (List.getElem?_eq_getElem hi)
    refine ⟨cs, fun j hj => ?_, k.mono hr hS fun b _ => rfl⟩
    rw [(free_of hh).1, Nat.zero_add, ← hc j hj, ← ht, List.getElem?_take_of_lt, Array.getElem?_toList]
    have : (i + 1) * k.n ≤ len * k.n := Nat.mul_le_mul_right _ (by omega)
    rw [Nat.add_mul, Nat.one_mul] at this
    omega
/-- Its first m elements. -/
theorem own_take {w : World} {B : Nat} {E : TypeId} {A : Option Addr} {len cap m size : Nat} {rows : List Value} (h : w.ownsRow B E size (.slice A len cap) len rows) (hm : m ≤ len) : w.ownsRow B E size (.slice A m cap) m (rows.take (m * size)) := by
  obtain ⟨hr, ⟨hv, h0⟩ | ⟨g, cap', cur, hv, hg, hh, hle, hmx, hs, ht⟩⟩ := h
  · simp only [Value.slice.injEq] at hv
    obtain ⟨rfl, rfl, rfl⟩ := hv
    obtain rfl : m = 0 := by omega
    exact ⟨by simp, .inl ⟨rfl, rfl⟩⟩
  · simp only [Value.slice.injEq] at hv
    obtain ⟨rfl, _, rfl⟩ := hv
    have hmm : m * size ≤ len * size := Nat.mul_le_mul_right _ hm
    refine ⟨by rw [List.length_take, hr]; omega, .inr ⟨g, cap, cur, rfl, hg, hh, Nat.le_trans hm hle, hmx, hs, ?_⟩⟩
    rw [← ht, List.take_take, Nat.min_eq_left hmm]
/-- The rest of a slice, from d on. -/
theorem IsSl.drop {α : Type} {k : Kd α} {w : World} {S : Nat → Prop} {b off len cap d : Nat} {xs : List α} (h : IsSl k w S (some ⟨b, off, none⟩) len cap xs) (hd : d ≤ len) : IsSl k w S (some ⟨b, off + d * k.n, none⟩) (len - d) (cap - d) (xs.drop d) := by
  obtain ⟨h1, h2, h3, h4⟩ := h
  refine ⟨by rw [List.length_drop, h1], by omega, by omega, fun h0 => ?_⟩
  obtain ⟨b', off', he, hb, hi⟩ := h4 (by omega)
  simp only [Option.some.injEq, Addr.mk.injEq, and_true] at he
  obtain ⟨rfl, rfl⟩ := he
  refine ⟨b, _, rfl, hb, fun i hix => ?_⟩
  rw [List.length_drop] at hix
  obtain ⟨cs, hc, hr⟩ := hi (d + i) (by omega)
  refine ⟨cs, fun j hj => ?_, by rw [List.getElem_drop]; exact hr⟩
  rw [← hc j hj, Nat.add_mul]
  congr 2
  omega
end Go.Proofs.YtjeilgogjoidjaaGreat
