import Derived.Test.YteeenmjkfaeepaaVals
/-! The order of values: plain facts, no program in sight. -/
namespace Go.Proofs.Yteeenmjkfaeepaa
open Go.RowKit
set_option linter.unusedVariables false
set_option linter.unusedSimpArgs false

theorem bytesLess_nil_cons (b : UInt8) (m : List UInt8) : Op.bytesLess [] (b :: m) = true := by simp [Op.bytesLess]
theorem bytesLess_nil (l : List UInt8) : Op.bytesLess l [] = false := by cases l <;> simp [Op.bytesLess]
theorem bytesLess_cons (a b : UInt8) (l m : List UInt8) : Op.bytesLess (a :: l) (b :: m) = (decide (a < b) || (a == b && Op.bytesLess l m)) := by
  simp [Op.bytesLess]
theorem bytesLess_asymm : ∀ l m : List UInt8, Op.bytesLess l m = true → Op.bytesLess m l = false
  | [], [], h => by simp [bytesLess_nil] at h
  | [], _ :: _, _ => bytesLess_nil _
  | _ :: _, [], h => by simp [bytesLess_nil] at h
  | a :: l, b :: m, h => by
    rw [bytesLess_cons] at h ⊢
    simp only [Bool.or_eq_true, decide_eq_true_eq, Bool.and_eq_true, beq_iff_eq] at h
    simp only [Bool.or_eq_false_iff, decide_eq_false_iff_not, Bool.and_eq_false_iff, beq_eq_false_iff_ne]
    rcases h with h | ⟨rfl, h⟩
    · exact ⟨by rw [UInt8.not_lt]; exact UInt8.le_of_lt h, .inl (fun e => by subst e; exact absurd h (UInt8.lt_irrefl _))⟩
    · exact ⟨UInt8.lt_irrefl _, .inr (bytesLess_asymm l m h)⟩
theorem bytesLess_total : ∀ l m : List UInt8, Op.bytesLess l m = false → l ≠ m → Op.bytesLess m l = true
  | [], [], _, h => absurd rfl h
  | [], _ :: _, h, _ => by simp [bytesLess_nil_cons] at h
  | _ :: _, [], _, _ => bytesLess_nil_cons _ _
  | a :: l, b :: m, h, hn => by
    rw [bytesLess_cons] at h ⊢
    simp only [Bool.or_eq_false_iff, decide_eq_false_iff_not, Bool.and_eq_false_iff, beq_eq_false_iff_ne] at h
    simp only [Bool.or_eq_true, decide_eq_true_eq, Bool.and_eq_true, beq_iff_eq]
    by_cases e : a = b
    · subst e
      rcases h.2 with h2 | h2
      · exact absurd rfl h2
      · exact .inr ⟨rfl, bytesLess_total l m h2 (fun e => hn (by rw [e]))⟩
    · refine .inl ?_
      have := h.1
      rw [UInt8.not_lt] at this
      exact UInt8.lt_of_le_of_ne this (Ne.symm e)
theorem bytesLess_trans : ∀ l m n : List UInt8, Op.bytesLess l m = true → Op.bytesLess m n = true → Op.bytesLess l n = true
  | _, [], _, h, _ => by simp [bytesLess_nil] at h
  | _, _ :: _, [], _, h => by simp [bytesLess_nil] at h
  | [], _ :: _, _ :: _, _, _ => bytesLess_nil_cons _ _
  | a :: l, b :: m, c :: n, h, k => by
    rw [bytesLess_cons] at h k ⊢
    simp only [Bool.or_eq_true, decide_eq_true_eq, Bool.and_eq_true, beq_iff_eq] at h k ⊢
    rcases h with h | ⟨rfl, h⟩
    · rcases k with k | ⟨rfl, k⟩
      · exact .inl (UInt8.lt_trans h k)
      · exact .inl h
    · rcases k with k | ⟨rfl, k⟩
      · exact .inl k
      · exact .inr ⟨rfl, bytesLess_trans l m n h k⟩

theorem cmpI_spec (a b : Int) : (cmpI a b = -1 ∧ a < b) ∨ (cmpI a b = 0 ∧ a = b) ∨ (cmpI a b = 1 ∧ b < a) := by
  unfold cmpI; split
  · exact .inl ⟨rfl, by assumption⟩
  · split
    · exact .inr (.inr ⟨rfl, by assumption⟩)
    · exact .inr (.inl ⟨rfl, by omega⟩)
theorem cmpS_spec (a b : ByteArray) : (cmpS a b = -1 ∧ Op.bytesLess a.toList b.toList = true) ∨ (cmpS a b = 0 ∧ a.toList = b.toList) ∨ (cmpS a b = 1 ∧ Op.bytesLess b.toList a.toList = true) := by
  unfold cmpS; split
  · exact .inl ⟨rfl, by assumption⟩
  · split
    · exact .inr (.inl ⟨rfl, by assumption⟩)
    · rename_i h1 h2; exact .inr (.inr ⟨rfl, bytesLess_total _ _ (by simpa using h1) h2⟩)
theorem cmpS_turn (a b : ByteArray) : cmpS b a = -cmpS a b := by
  rcases cmpS_spec a b with ⟨h, k⟩ | ⟨h, k⟩ | ⟨h, k⟩ <;> rw [h]
  · unfold cmpS; rw [bytesLess_asymm _ _ k, if_neg (by simp), if_neg]
    · rfl
    · intro e; rw [e, bytesLess_self] at k; cases k
  · unfold cmpS; rw [k, bytesLess_self, if_neg (by simp), if_pos rfl]; rfl
  · unfold cmpS; rw [k, if_pos rfl]
theorem cmpI_turn (a b : Int) : cmpI b a = -cmpI a b := by
  rcases cmpI_spec a b with ⟨h, k⟩ | ⟨h, k⟩ | ⟨h, k⟩ <;> rcases cmpI_spec b a with ⟨h', k'⟩ | ⟨h', k'⟩ | ⟨h', k'⟩ <;> rw [h, h'] <;> first | rfl | omega
theorem ordV_turn (a b : Val) : ordV b a = -ordV a b := by
  unfold ordV or3
  rw [cmpI_turn a.kind b.kind, cmpI_turn a.n b.n, cmpS_turn a.s b.s]
  repeat' split
  all_goals omega
theorem cmp_three {x : Int} (h : x = -1 ∨ x = 0 ∨ x = 1) : -1 ≤ x ∧ x ≤ 1 := by omega
theorem ordV_three (a b : Val) : ordV a b = -1 ∨ ordV a b = 0 ∨ ordV a b = 1 := by
  unfold ordV or3
  rcases cmpI_spec a.kind b.kind with ⟨h, _⟩ | ⟨h, _⟩ | ⟨h, _⟩ <;> rcases cmpI_spec a.n b.n with ⟨h', _⟩ | ⟨h', _⟩ | ⟨h', _⟩ <;> rcases cmpS_spec a.s b.s with ⟨h'', _⟩ | ⟨h'', _⟩ | ⟨h'', _⟩ <;> simp [h, h', h'']
theorem ordV_zero (a b : Val) : ordV a b = 0 ↔ eqV a b = true := by
  unfold ordV or3 eqV
  have hs : cmpS a.s b.s = 0 ↔ a.s.toList = b.s.toList := by
    rcases cmpS_spec a.s b.s with ⟨h, k⟩ | ⟨h, k⟩ | ⟨h, k⟩ <;> rw [h]
    · constructor
      · intro e; cases e
      · intro e; rw [e, bytesLess_self] at k; cases k
    · simp [k]
    · constructor
      · intro e; cases e
      · intro e; rw [e, bytesLess_self] at k; cases k
  have hi : ∀ x y : Int, cmpI x y = 0 ↔ x = y := fun x y => by rcases cmpI_spec x y with ⟨h, k⟩ | ⟨h, k⟩ | ⟨h, k⟩ <;> rw [h] <;> constructor <;> intro <;> first | rfl | omega
  simp only [Bool.and_eq_true, beq_iff_eq, ← hi a.kind b.kind, ← hi a.n b.n, ← hs]
  by_cases h1 : cmpI a.kind b.kind = 0 <;> by_cases h2 : cmpI a.n b.n = 0 <;> simp [h1, h2]
theorem ordV_le_trans (a b c : Val) (h : ordV a b ≤ 0) (k : ordV b c ≤ 0) : ordV a c ≤ 0 := by
  unfold ordV or3 at *
  have hs : cmpS a.s b.s ≤ 0 → cmpS b.s c.s ≤ 0 → cmpS a.s c.s ≤ 0 := by
    intro h k
    rcases cmpS_spec a.s b.s with ⟨h1, h2⟩ | ⟨h1, h2⟩ | ⟨h1, h2⟩ <;> rcases cmpS_spec b.s c.s with ⟨k1, k2⟩ | ⟨k1, k2⟩ | ⟨k1, k2⟩ <;> first | omega | skip
    · unfold cmpS; rw [bytesLess_trans _ _ _ h2 k2, if_pos rfl]; decide
    · unfold cmpS; rw [← k2, h2, if_pos rfl]; decide
    · unfold cmpS; rw [h2, k2, if_pos rfl]; decide
    · unfold cmpS; rw [h2, k2, bytesLess_self, if_neg (by simp), if_pos rfl]; decide
  rcases cmpI_spec a.kind b.kind with ⟨h1, h2⟩ | ⟨h1, h2⟩ | ⟨h1, h2⟩ <;> rcases cmpI_spec b.kind c.kind with ⟨k1, k2⟩ | ⟨k1, k2⟩ | ⟨k1, k2⟩ <;> rcases cmpI_spec a.kind c.kind with ⟨m1, m2⟩ | ⟨m1, m2⟩ | ⟨m1, m2⟩ <;> simp only [h1, k1, m1] at h k ⊢ <;> first | omega | decide | skip
  all_goals
    rcases cmpI_spec a.n b.n with ⟨i1, i2⟩ | ⟨i1, i2⟩ | ⟨i1, i2⟩ <;> rcases cmpI_spec b.n c.n with ⟨j1, j2⟩ | ⟨j1, j2⟩ | ⟨j1, j2⟩ <;> rcases cmpI_spec a.n c.n with ⟨l1, l2⟩ | ⟨l1, l2⟩ | ⟨l1, l2⟩ <;> simp [i1, j1, l1] at h k ⊢ <;> first | omega | skip
  all_goals exact hs h k
/-- What FnThree says, of right values. -/
theorem three (a b : Val) (ha : okB a = true) (hb : okB b = true) : ∃ e l m : Int, eq3 a b = e ∧ eq3 b a = e ∧ less3 a b = l ∧ less3 b a = m ∧
    (((a.kind = 0 ∨ b.kind = 0) ∧ e = 2 ∧ l = 2 ∧ m = 2) ∨ (a.kind ≠ 0 ∧ b.kind ≠ 0 ∧ ((e = 1 ∧ l = 0 ∧ m = 0 ∧ order a b = 0) ∨ (e = 0 ∧ l = 1 ∧ m = 0 ∧ order a b = -1) ∨ (e = 0 ∧ l = 0 ∧ m = 1 ∧ order a b = 1)))) := by
  refine ⟨_, _, _, rfl, ?_, rfl, rfl, ?_⟩
  · have : eqV b a = eqV a b := by
      rw [Bool.eq_iff_iff, ← ordV_zero, ← ordV_zero, ordV_turn a b]; omega
    have hk : knownB b a = knownB a b := by simp only [knownB, ha, hb, Bool.true_and]; exact Bool.and_comm _ _
    simp only [eq3, this, hk]
  · by_cases h0 : a.kind = 0 ∨ b.kind = 0
    · have h1 : knownB a b = false := by rcases h0 with h | h <;> simp [knownB, h]
      have h2 : knownB b a = false := by rcases h0 with h | h <;> simp [knownB, h]
      exact .inl ⟨h0, by simp [eq3, h1], by simp [less3, h1], by simp [less3, h2]⟩
    · have h3 : a.kind ≠ 0 := fun e => h0 (.inl e)
      have h4 : b.kind ≠ 0 := fun e => h0 (.inr e)
      have h1 : knownB a b = true := by simp [knownB, ha, hb, h3, h4]
      have h2 : knownB b a = true := by simp [knownB, ha, hb, h3, h4]
      refine .inr ⟨h3, h4, ?_⟩
      have ht := ordV_turn a b
      have hz := ordV_zero a b
      simp only [eq3, less3, order, h1, h2, ha, hb, if_true, Bool.and_self]
      rcases ordV_three a b with h | h | h
      · rw [h] at ht hz ⊢
        have : eqV a b = false := by rw [Bool.eq_false_iff]; intro e; exact absurd (hz.mpr e) (by decide)
        rw [ht, this]; exact .inr (.inl (by decide))
      · rw [h] at ht hz ⊢
        rw [ht, hz.mp rfl]; exact .inl (by decide)
      · rw [h] at ht hz ⊢
        have : eqV a b = false := by rw [Bool.eq_false_iff]; intro e; exact absurd (hz.mpr e) (by decide)
        rw [ht, this]; exact .inr (.inr (by decide))
end Go.Proofs.Yteeenmjkfaeepaa
