import Derived.Test.YtjeilgogjoidjaaGreatMarks
/-! Writes that keep each cell's kind. -/
namespace Go.Proofs.YtjeilgogjoidjaaGreat
open Go.RowKit
set_option linter.unusedVariables false
set_option linter.unusedSimpArgs false
def SimV (v v' : Value) : Prop := v = v' ∨ (∃ k n n', v = .int k n ∧ v' = .int k n') ∨ (∃ s s', v = .string s ∧ v' = .string s' ∧ s'.size ≤ maxLen) ∨ ∃ b b', v = .bool b ∧ v' = .bool b'
theorem SimV.refl (v : Value) : SimV v v := .inl rfl
theorem SimV.trans {a b c : Value} (h : SimV a b) (k : SimV b c) : SimV a c := by
  rcases h with rfl | ⟨i, n, m, rfl, rfl⟩ | ⟨s, t, rfl, rfl, hs⟩ | ⟨x, y, rfl, rfl⟩
  · exact k
  · rcases k with rfl | ⟨i', n', m', h1, rfl⟩ | ⟨s, t, h1, rfl, hs⟩ | ⟨x, y, h1, rfl⟩
    · exact .inr (.inl ⟨_, _, _, rfl, rfl⟩)
    · cases h1; exact .inr (.inl ⟨_, _, _, rfl, rfl⟩)
    · cases h1
    · cases h1
  · rcases k with rfl | ⟨i', n', m', h1, rfl⟩ | ⟨s', t', h1, rfl, hs'⟩ | ⟨x, y, h1, rfl⟩
    · exact .inr (.inr (.inl ⟨_, _, rfl, rfl, hs⟩))
    · cases h1
    · cases h1; exact .inr (.inr (.inl ⟨_, _, rfl, rfl, hs'⟩))
    · cases h1
  · rcases k with rfl | ⟨i', n', m', h1, rfl⟩ | ⟨s', t', h1, rfl, hs'⟩ | ⟨x, y, h1, rfl⟩
    · exact .inr (.inr (.inr ⟨_, _, rfl, rfl⟩))
    · cases h1
    · cases h1
    · cases h1; exact .inr (.inr (.inr ⟨_, _, rfl, rfl⟩))
/-- Each cell that is there stays there, of its kind. -/
def Sim (w w' : World) : Prop := ∀ b o v, w.cell? ⟨b, o, none⟩ = some v → ∃ v', w'.cell? ⟨b, o, none⟩ = some v' ∧ SimV v v'
theorem Sim.refl (w : World) : Sim w w := fun _ _ v h => ⟨v, h, SimV.refl v⟩
theorem Sim.trans {a b c : World} (h : Sim a b) (k : Sim b c) : Sim a c := fun x o v hv => by
  obtain ⟨v1, h1, s1⟩ := h x o v hv
  obtain ⟨v2, h2, s2⟩ := k x o v1 h1
  exact ⟨v2, h2, s1.trans s2⟩
theorem Sim.grow {a b : World} (h : Grow a b) : Sim a b := fun x o v hv => ⟨v, by rw [h.same x o (cells_lt hv)]; exact hv, SimV.refl v⟩
theorem Sim.put {w : World} {g p : Nat} {u v : Value} (hu : w.cell? ⟨g, p, none⟩ = some u) (hs : SimV u v) : Sim w (w.setCell ⟨g, p, none⟩ v) := fun b o x hx => by
  obtain ⟨c, t, fr, hh, hc⟩ := cell_inv hu
  have hown := put_own hh p v
  by_cases hb : b = g
  · subst hb
    rw [cell_of hh] at hx
    rw [cell_of hown, Array.getElem?_setIfInBounds]
    by_cases ho : p = o
    · subst ho
      rw [if_pos rfl, if_pos (Array.getElem?_eq_some_iff.mp hc).1]
      rw [hc] at hx
      cases hx
      exact ⟨v, rfl, hs⟩
    · rw [if_neg ho]
      exact ⟨x, hx, SimV.refl x⟩
  · exact ⟨x, by rw [World.cell?_of_block (w := w) (put_other hb p v)]; exact hx, SimV.refl x⟩
/-- What a store may put in a cell's place. -/
def SimS (v v' : Value) : Prop := (∃ k n n', v = .int k n ∧ v' = .int k n') ∨ (∃ s s', v = .string s ∧ v' = .string s' ∧ s'.size ≤ maxLen) ∨ ∃ b b', v = .bool b ∧ v' = .bool b'
theorem SimS.int (k : IntKind) (n m : Int) : SimS (.int k n) (.int k m) := .inl ⟨_, _, _, rfl, rfl⟩
theorem SimS.str (s : ByteArray) {t : ByteArray} (h : t.size ≤ maxLen) : SimS (.string s) (.string t) := .inr (.inl ⟨_, _, rfl, rfl, h⟩)
theorem SimS.bool (a b : Bool) : SimS (.bool a) (.bool b) := .inr (.inr ⟨_, _, rfl, rfl⟩)
theorem SimS.over {u u' v : Value} (h : SimS u v) (k : SimV u u') : SimV u' v := by
  rcases h with ⟨i, n, m, rfl, rfl⟩ | ⟨s, t, rfl, rfl, hs⟩ | ⟨x, y, rfl, rfl⟩
  · rcases k with rfl | ⟨i', n', m', h1, rfl⟩ | ⟨s, t, h1, rfl, hs⟩ | ⟨x, y, h1, rfl⟩
    · exact .inr (.inl ⟨_, _, _, rfl, rfl⟩)
    · cases h1; exact .inr (.inl ⟨_, _, _, rfl, rfl⟩)
    · cases h1
    · cases h1
  · rcases k with rfl | ⟨i', n', m', h1, rfl⟩ | ⟨s', t', h1, rfl, hs'⟩ | ⟨x, y, h1, rfl⟩
    · exact .inr (.inr (.inl ⟨_, _, rfl, rfl, hs⟩))
    · cases h1
    · cases h1; exact .inr (.inr (.inl ⟨_, _, rfl, rfl, hs⟩))
    · cases h1
  · rcases k with rfl | ⟨i', n', m', h1, rfl⟩ | ⟨s', t', h1, rfl, hs'⟩ | ⟨x, y, h1, rfl⟩
    · exact .inr (.inr (.inr ⟨_, _, rfl, rfl⟩))
    · cases h1
    · cases h1
    · cases h1; exact .inr (.inr (.inr ⟨_, _, rfl, rfl⟩))
theorem SimV.slice {A : Option Addr} {l c : Nat} {v : Value} (h : SimV (.slice A l c) v) : v = .slice A l c := by
  rcases h with rfl | ⟨_, _, _, h, _⟩ | ⟨_, _, h, _⟩ | ⟨_, _, h, _⟩
  · rfl
  · cases h
  · cases h
  · cases h
theorem SimV.int {k : IntKind} {n : Int} {v : Value} (h : SimV (.int k n) v) : ∃ m, v = .int k m := by
  rcases h with rfl | ⟨_, _, _, h, rfl⟩ | ⟨_, _, h, _⟩ | ⟨_, _, h, _⟩
  · exact ⟨_, rfl⟩
  · cases h; exact ⟨_, rfl⟩
  · cases h
  · cases h
theorem SimV.bool {n : Bool} {v : Value} (h : SimV (.bool n) v) : ∃ m, v = .bool m := by
  rcases h with rfl | ⟨_, _, _, h, rfl⟩ | ⟨_, _, h, _⟩ | ⟨_, _, h, rfl⟩
  · exact ⟨_, rfl⟩
  · cases h
  · cases h
  · exact ⟨_, rfl⟩
theorem SimV.str {s : ByteArray} {v : Value} (h : SimV (.string s) v) (hs : s.size ≤ maxLen) : ∃ t, v = .string t ∧ t.size ≤ maxLen := by
  rcases h with rfl | ⟨_, _, _, h, rfl⟩ | ⟨_, _, h, rfl, ht⟩ | ⟨_, _, h, _⟩
  · exact ⟨_, rfl, hs⟩
  · cases h
  · exact ⟨_, rfl, ht⟩
  · cases h
theorem Sim.slice {w w' : World} (h : Sim w w') {b o : Nat} {A : Option Addr} {l c : Nat} (hc : w.cell? ⟨b, o, none⟩ = some (.slice A l c)) : w'.cell? ⟨b, o, none⟩ = some (.slice A l c) := by
  obtain ⟨v, hv, hs⟩ := h b o _ hc
  rw [hv, hs.slice]
/-- Lists of like values. -/
def SimL (cs cs' : List Value) : Prop := cs.length = cs'.length ∧ ∀ (i : Nat) v, cs[i]? = some v → ∃ v', cs'[i]? = some v' ∧ SimV v v'
/-- A kind of data whose shape bears writes of a like kind; c counts the same. -/
def Sims {α : Type} (k : Kd α) (c : α → Nat) : Prop := ∀ (w w' : World) (S S' : Nat → Prop) (cs cs' : List Value) (a : α), k.rd w S cs a → Sim w w' → SimL cs cs' → (∀ b, S b → S' b) → ∃ a', k.rd w' S' cs' a' ∧ c a' = c a
theorem simL_cells {w w' : World} (h : Sim w w') {b o n : Nat} {cs : List Value} (hl : cs.length = n) (hc : ∀ j : Nat, j < n → w.cell? ⟨b, o + j, none⟩ = cs[j]?) : ∃ cs' : List Value, cs'.length = n ∧ (∀ j : Nat, j < n → w'.cell? ⟨b, o + j, none⟩ = cs'[j]?) ∧ SimL cs cs' := by
  have each : ∀ j : Fin n, ∃ v', w'.cell? ⟨b, o + j.1, none⟩ = some v' ∧ SimV (cs[j.1]'(by rw [hl]; exact j.2)) v' := fun j => by
    refine h b (o + j.1) _ ?_
    rw [hc j.1 j.2, List.getElem?_eq_getElem (by rw [hl]; exact j.2)]
  refine ⟨List.ofFn fun j => (each j).choose, by simp, fun j hj => ?_, by simp [hl], fun i v hv => ?_⟩
  · rw [List.getElem?_ofFn, dif_pos hj]
    exact (each ⟨j, hj⟩).choose_spec.1
  · have hi := (List.getElem?_eq_some_iff.mp hv).1
    have hi' : i < n := by omega
    refine ⟨(each ⟨i, hi'⟩).choose, by rw [List.getElem?_ofFn, dif_pos hi'], ?_⟩
    have := (each ⟨i, hi'⟩).choose_spec.2
    obtain ⟨_, he⟩ := List.getElem?_eq_some_iff.mp hv
    simpa [he] using this
theorem IsSl.sim {α : Type} {k : Kd α} {c : α → Nat} (hk : Sims k c) {w w' : World} {S S' : Nat → Prop} {A : Option Addr} {len cap : Nat} {xs : List α} (h : IsSl k w S A len cap xs) (hs : Sim w w') (hS : ∀ b, S b → S' b) :
    ∃ xs' : List α, IsSl k w' S' A len cap xs' ∧ xs'.map c = xs.map c := by
  obtain ⟨h1, h2, h3, h4⟩ := h
  rcases Nat.eq_zero_or_pos len with h0 | h0
  · subst h0
    obtain rfl : xs = [] := List.eq_nil_of_length_eq_zero h1
    exact ⟨[], ⟨rfl, h2, h3, fun h => absurd h (Nat.lt_irrefl _)⟩, rfl⟩
  · obtain ⟨b, off, hA, hb, hx⟩ := h4 h0
    have each : ∀ i : Fin xs.length, ∃ a' : α, (∃ cs', (∀ j, j < k.n → w'.cell? ⟨b, off + (i * k.n + j), none⟩ = cs'[j]?) ∧ k.rd w' S' cs' a') ∧ c a' = c (xs[i.1]'i.2) := fun i => by
      obtain ⟨cs, hc, hr⟩ := hx i i.2
      obtain ⟨cs', hl', hc', hss⟩ := simL_cells hs (o := off + i * k.n) (k.len hr) (fun j hj => by rw [Nat.add_assoc]; exact hc j hj)
      obtain ⟨a', ha', hca⟩ := hk w w' S S' cs cs' _ hr hs hss hS
      exact ⟨a', ⟨cs', fun j hj => by rw [← Nat.add_assoc]; exact hc' j hj, ha'⟩, hca⟩
    refine ⟨List.ofFn fun i => (each i).choose, ⟨by simpa using h1, h2, h3, fun _ => ⟨b, off, hA, hS b hb, fun i hi => ?_⟩⟩, ?_⟩
    · simp only [List.length_ofFn] at hi
      simp only [List.getElem_ofFn]
      exact (each ⟨i, hi⟩).choose_spec.1
    · apply List.ext_getElem
      · simp
      · intro i h1 h2
        simp only [List.length_map, List.length_ofFn] at h1
        simp only [List.getElem_map, List.getElem_ofFn]
        exact (each ⟨i, h1⟩).choose_spec.2
theorem map_at {α : Type} {c : α → Nat} {xs ys : List α} (h : ys.map c = xs.map c) {i : Nat} {y : α} (hy : ys[i]? = some y) : ∃ x, xs[i]? = some x ∧ c x = c y := by
  have h1 : (ys.map c)[i]? = some (c y) := by rw [List.getElem?_map, hy]; rfl
  rw [h, List.getElem?_map] at h1
  cases hx : xs[i]? with
  | none => rw [hx] at h1; cases h1
  | some x => rw [hx] at h1; exact ⟨x, rfl, Option.some.inj h1⟩
theorem cntL_map {α : Type} {c : α → Nat} {xs ys : List α} (h : ys.map c = xs.map c) : cntL c ys = cntL c xs := by
  unfold cntL cSum
  rw [h]
  have := congrArg List.length h
  simp only [List.length_map] at this
  rw [this]
theorem cSum_le {α : Type} (c : α → Nat) (xs : List α) (k : Nat) : cSum c (xs.take k) ≤ cSum c xs := by
  unfold cSum
  conv => rhs; rw [← List.take_append_drop k xs, List.map_append, List.sum_append]
  exact Nat.le_add_right _ _
/-- Marks: only the window's blocks have turned, and those keep their kinds. -/
def MK (B C : Nat) (w w' : World) : Prop := Win B C w w' ∧ Sim w w'
theorem MK.refl (B C : Nat) (w : World) : MK B C w w := ⟨Win.refl _ _ _, Sim.refl _⟩
theorem MK.trans {B C : Nat} {a b c : World} (h : MK B C a b) (k : MK B C b c) : MK B C a c := ⟨h.1.trans k.1, h.2.trans k.2⟩
theorem MK.grow {B C : Nat} {a b c : World} (h : MK B C a b) (hB : B ≤ a.heap.size) (k : Grow b c) : MK B C a c := ⟨h.1.grow (Nat.le_trans hB h.1.2.1) k, h.2.trans (Sim.grow k)⟩
theorem MK.put {B C : Nat} {w a : World} {g o : Nat} {u v : Value} (h : MK B C w a) (hu : w.cell? ⟨g, o, none⟩ = some u) (hs : SimS u v) (hB : B ≤ g) (hC : g < C) : MK B C w (a.setCell ⟨g, o, none⟩ v) := by
  obtain ⟨u', hu', hs'⟩ := h.2 g o u hu
  exact ⟨h.1.set (vs := [v]) hB hC, h.2.trans (Sim.put hu' (hs.over hs'))⟩
theorem IsSl.mk {α : Type} {k : Kd α} {c : α → Nat} (hk : Sims k c) {B C : Nat} {w w' : World} {A : Option Addr} {len cap : Nat} {xs : List α} (h : IsSl k w (InWin B C w) A len cap xs) (hs : MK B C w w') :
    ∃ xs' : List α, IsSl k w' (InWin B C w') A len cap xs' ∧ xs'.map c = xs.map c :=
  h.sim hk hs.2 fun b hb => hb.win hs.1
def MkRes (B C k n : Nat) (w : World) (e : Ending) (w' : World) : Prop := ∃ r : Nat, e = .returned (.int .i64 r) ∧ k ≤ r ∧ r ≤ k + 6 * n ∧ MK B C w w'
theorem SimL.one {v : Value} {cs' : List Value} (h : SimL [v] cs') : ∃ a, cs' = [a] ∧ SimV v a := by
  obtain ⟨hl, h⟩ := h
  match cs', hl with
  | [a], _ => obtain ⟨x, hx, hs⟩ := h 0 v rfl; cases hx; exact ⟨a, rfl, hs⟩
theorem SimL.cons {v : Value} {cs cs' : List Value} (h : SimL (v :: cs) cs') : ∃ a t, cs' = a :: t ∧ SimV v a ∧ SimL cs t := by
  obtain ⟨hl, h⟩ := h
  match cs', hl with
  | a :: t, hl => 
    obtain ⟨x, hx, hs⟩ := h 0 v rfl
    cases hx
    exact ⟨a, t, rfl, hs, by simpa using hl, fun i v hv => h (i + 1) v hv⟩
theorem SimL.nil {cs' : List Value} (h : SimL [] cs') : cs' = [] := List.eq_nil_of_length_eq_zero h.1.symm
theorem sims_int : Sims Kd.int cInt := fun w w' S S' cs cs' a hr hs hl hS => by
  obtain rfl : cs = [.int .i64 a] := hr
  obtain ⟨v, rfl, hv⟩ := hl.one
  obtain ⟨m, rfl⟩ := hv.int
  exact ⟨m, rfl, rfl⟩
theorem sims_val : Sims Kd.val cVal := fun w w' S S' cs cs' a hr hs hl hS => by
  obtain ⟨rfl, hz⟩ := hr
  obtain ⟨v0, _, rfl, q0, hl⟩ := hl.cons
  obtain ⟨v1, _, rfl, q1, hl⟩ := hl.cons
  obtain ⟨v2, _, rfl, q2, hl⟩ := hl.cons
  obtain rfl := hl.nil
  obtain ⟨m0, rfl⟩ := q0.int
  obtain ⟨m1, rfl⟩ := q1.int
  obtain ⟨m2, rfl, z2⟩ := q2.str hz
  exact ⟨⟨m0, m1, m2⟩, ⟨rfl, z2⟩, rfl⟩
end Go.Proofs.YtjeilgogjoidjaaGreat
