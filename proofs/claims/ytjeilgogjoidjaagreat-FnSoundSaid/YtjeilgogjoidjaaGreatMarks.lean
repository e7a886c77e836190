import Derived.Test.YtjeilgogjoidjaaGreatLists
import Derived.Laws.BytesArg
/-! Marks: what the laws write over an argument, to see whether memory is shared. -/
namespace Go.Proofs.YtjeilgogjoidjaaGreat
open Go.RowKit
set_option linter.unusedVariables false
set_option linter.unusedSimpArgs false
def digs : Nat → Nat → ByteArray → ByteArray
  | 0, _, out => out
  | fuel + 1, k, out => if k = 0 then out else digs fuel (k / 10) (strOfNums [48 + (k : Int) % 10] ++ out)
def markT (k : Nat) : ByteArray := if k = 0 then ⟨#[109, 48]⟩ else ⟨#[109]⟩ ++ digs (k + 1) k ⟨#[]⟩
theorem digs_step {fuel j : Nat} {out : ByteArray} (h : 0 < j) : digs (fuel + 1) j out = digs fuel (j / 10) (strOfNums [48 + (j : Int) % 10] ++ out) := by
  rw [digs, if_neg (by omega)]
theorem digs_zero {fuel : Nat} {out : ByteArray} : digs fuel 0 out = out := by
  cases fuel with
  | zero => rfl
  | succ n => rw [digs, if_pos rfl]
/-- Blocks below B, and from C on, are as they were; none is gone, none is frozen that was not. -/
def Win (B C : Nat) (w w' : World) : Prop := Below B w w' ∧ w.heap.size ≤ w'.heap.size ∧ (∀ b, b < w.heap.size → (b < B ∨ C ≤ b) → w'.heap[b]? = w.heap[b]?) ∧ ∀ b o, b < w.heap.size → w'.frozen? ⟨b, o, none⟩ = w.frozen? ⟨b, o, none⟩
theorem Win.refl (B C : Nat) (w : World) : Win B C w w := ⟨Below.refl _ _, Nat.le_refl _, fun _ _ _ => rfl, fun _ _ _ => rfl⟩
theorem Win.trans {B C : Nat} {a b c : World} (h : Win B C a b) (k : Win B C b c) : Win B C a c :=
  ⟨Below.trans h.1 k.1, Nat.le_trans h.2.1 k.2.1, fun x hx hb => (k.2.2.1 x (Nat.lt_of_lt_of_le hx h.2.1) hb).trans (h.2.2.1 x hx hb), fun x o hx => (k.2.2.2 x o (Nat.lt_of_lt_of_le hx h.2.1)).trans (h.2.2.2 x o hx)⟩
theorem Win.grow {B C : Nat} {a b c : World} (h : Win B C a b) (hB : B ≤ b.heap.size) (k : Grow b c) : Win B C a c :=
  ⟨Below.trans h.1 (Below.mono k hB), Nat.le_trans h.2.1 k.size, fun x hx hb => (k.block (Nat.lt_of_lt_of_le hx h.2.1)).trans (h.2.2.1 x hx hb), fun x o hx => (k.sameF x o (Nat.lt_of_lt_of_le hx h.2.1)).trans (h.2.2.2 x o hx)⟩
theorem Win.after {B C : Nat} {w a b : World} (h : Win B C a b) (hg : Grow w a) (hB : w.heap.size ≤ B) : Grow w b := Below.trans hg (Below.mono h.1 hB)
theorem setL_below {B : Nat} {a w : World} (h : Below B a w) {g : Nat} (hg : B ≤ g) : ∀ (o : Nat) (vs : List Value), Below B a (setL w g o vs) := by
  intro o vs
  induction vs generalizing w o with
  | nil => exact h
  | cons v vs ih => exact ih (Below.setCell h hg v) (o + 1)
theorem setL_frozen (w : World) (g : Nat) (b o' : Nat) : ∀ (o : Nat) (vs : List Value), (setL w g o vs).frozen? ⟨b, o', none⟩ = w.frozen? ⟨b, o', none⟩
  | _, [] => rfl
  | o, v :: vs => by
    show (setL (w.setCell ⟨g, o, none⟩ v) g (o + 1) vs).frozen? _ = _
    rw [setL_frozen _ g b o' (o + 1) vs]
    by_cases hb : b = g
    · subst hb
      simp only [World.frozen?, World.setCell]
      simp only [Array.getElem?_modify]
      cases w.heap[b]? with
      | none => simp
      | some x => cases x <;> simp
    · exact World.frozen?_of_block (w := w) (a := ⟨b, o', none⟩) (Below.heap_setCell _ _ _ _ hb)
theorem Win.set {B C : Nat} {a b : World} (h : Win B C a b) {g o : Nat} {vs : List Value} (hB : B ≤ g) (hC : g < C) : Win B C a (setL b g o vs) :=
  ⟨setL_below h.1 hB o vs, by rw [setL_size]; exact h.2.1, fun x hx hb => (setL_other b g (by omega) o vs).trans (h.2.2.1 x hx hb), fun x o' hx => (setL_frozen b g x o' o vs).trans (h.2.2.2 x o' hx)⟩
/-- A kind whose cells say all. -/
def Plain {α : Type} (k : Kd α) : Prop := ∀ (w w' : World) (S S' : Nat → Prop) (cs : List Value) (a : α), k.rd w S cs a → k.rd w' S' cs a
theorem plain_int : Plain Kd.int := fun _ _ _ _ _ _ h => h
theorem plain_val : Plain Kd.val := fun _ _ _ _ _ _ h => h
theorem cell_inv {w : World} {b o : Nat} {v : Value} (h : w.cell? ⟨b, o, none⟩ = some v) : ∃ c t fr, w.heap[b]? = some (.cells c t fr) ∧ c[o]? = some v := by
  unfold World.cell? at h
  split at h
  · rename_i c t fr hb
    split at h
    · cases h
    · exact ⟨c, t, fr, hb, h⟩
  · cases h
theorem cell_of {w : World} {b o : Nat} {c : Array Value} {t : TypeId} {fr : Nat × Nat} (h : w.heap[b]? = some (.cells c t fr)) : w.cell? ⟨b, o, none⟩ = c[o]? := by
  simp [World.cell?, h]
theorem IsSl.put {α : Type} {k : Kd α} (hp : Plain k) (hn : 0 < k.n) {w : World} {S : Nat → Prop} {b off len cap : Nat} {xs : List α} (h : IsSl k w S (some ⟨b, off, none⟩) len cap xs) {i : Nat} (hi : i < len) {cs : List Value} {y : α} (hy : k.rd w S cs y) :
    IsSl k (setL w b (off + i * k.n) cs) S (some ⟨b, off, none⟩) len cap (xs.set i y) := by
  obtain ⟨h1, h2, h3, h4⟩ := h
  refine ⟨by rw [List.length_set]; exact h1, h2, h3, fun h0 => ?_⟩
  obtain ⟨b', off', he, hb, hx⟩ := h4 h0
  simp only [Option.some.injEq, Addr.mk.injEq, and_true] at he
  obtain ⟨rfl, rfl⟩ := he
  have hcl := k.len hy
  obtain ⟨ci, hci, hri⟩ := hx i (by omega)
  have hcil := k.len hri
  have hlast := hci (k.n - 1) (by omega)
  rw [List.getElem?_eq_getElem (by omega)] at hlast
  obtain ⟨c, t, fr, hh, hc⟩ := cell_inv hlast
  have hsz : off + i * k.n + cs.length ≤ c.size := by
    have := (Array.getElem?_eq_some_iff.mp hc).1
    omega
  have hown := setL_own hh (off + i * k.n) cs
  refine ⟨b, off, rfl, hb, fun j hj => ?_⟩
  rw [List.length_set] at hj
  by_cases hij : i = j
  · subst hij
    refine ⟨cs, fun q hq => ?_, ?_⟩
    · rw [cell_of hown, curL_get _ _ _ _ hsz, if_pos (by omega)]
      congr 1
      omega
    · rw [List.getElem_set_self]
      exact hp _ _ _ _ _ _ hy
  · obtain ⟨cj, hcj, hrj⟩ := hx j hj
    refine ⟨cj, fun q hq => ?_, ?_⟩
    · rw [cell_of hown, curL_get _ _ _ _ hsz, if_neg, ← cell_of hh]
      · exact hcj q hq
      · rcases Nat.lt_or_gt_of_ne hij with hlt | hgt
        · have : (i + 1) * k.n ≤ j * k.n := Nat.mul_le_mul_right _ hlt
          rw [Nat.add_mul, Nat.one_mul] at this
          omega
        · have : (j + 1) * k.n ≤ i * k.n := Nat.mul_le_mul_right _ hgt
          rw [Nat.add_mul, Nat.one_mul] at this
          omega
    · rw [List.getElem_set_ne hij]
      exact hp _ _ _ _ _ _ hrj
/-- One cell of an element. -/
theorem IsSl.put1 {α : Type} {k : Kd α} (hp : Plain k) {w : World} {S : Nat → Prop} {b off len cap : Nat} {xs : List α} (h : IsSl k w S (some ⟨b, off, none⟩) len cap xs) {i j : Nat} (hi : i < len) (hj : j < k.n) {v : Value} {y : α}
    (hy : ∀ cs x, xs[i]? = some x → k.rd w S cs x → k.rd w S (cs.set j v) y) : IsSl k (w.setCell ⟨b, off + (i * k.n + j), none⟩ v) S (some ⟨b, off, none⟩) len cap (xs.set i y) := by
  have h0 := h
  obtain ⟨h1, h2, h3, h4⟩ := h
  refine ⟨by rw [List.length_set]; exact h1, h2, h3, fun hl => ?_⟩
  obtain ⟨b', off', he, hb, hx⟩ := h4 hl
  simp only [Option.some.injEq, Addr.mk.injEq, and_true] at he
  obtain ⟨rfl, rfl⟩ := he
  obtain ⟨ci, hci, hri⟩ := hx i (by omega)
  have hcil := k.len hri
  have hlast := hci j hj
  rw [List.getElem?_eq_getElem (by omega)] at hlast
  obtain ⟨c, t, fr, hh, hc⟩ := cell_inv hlast
  have hsz := (Array.getElem?_eq_some_iff.mp hc).1
  have hown := put_own hh (off + (i * k.n + j)) v
  refine ⟨b, off, rfl, hb, fun q hq => ?_⟩
  rw [List.length_set] at hq
  by_cases hij : i = q
  · subst hij
    refine ⟨ci.set j v, fun p hpn => ?_, ?_⟩
    · rw [cell_of hown, Array.getElem?_setIfInBounds, List.getElem?_set]
      by_cases hjp : j = p
      · subst hjp
        rw [if_pos rfl, if_pos hsz, if_pos rfl, if_pos (by omega)]
      · rw [if_neg (by omega), if_neg hjp, ← cell_of hh]
        exact hci p hpn
    · rw [List.getElem_set_self]
      exact hp _ _ _ _ _ _ (hy ci _ (List.getElem?_eq_getElem (by omega)) hri)
  · obtain ⟨cj, hcj, hrj⟩ := hx q hq
    refine ⟨cj, fun p hpn => ?_, ?_⟩
    · rw [cell_of hown, Array.getElem?_setIfInBounds, if_neg, ← cell_of hh]
      · exact hcj p hpn
      · rcases Nat.lt_or_gt_of_ne hij with hlt | hgt
        · have : (i + 1) * k.n ≤ q * k.n := Nat.mul_le_mul_right _ hlt
          rw [Nat.add_mul, Nat.one_mul] at this
          omega
        · have : (q + 1) * k.n ≤ i * k.n := Nat.mul_le_mul_right _ hgt
          rw [Nat.add_mul, Nat.one_mul] at this
          omega
    · rw [List.getElem_set_ne hij]
      exact hp _ _ _ _ _ _ hrj
/-- Made since B, ahead of C, not frozen. -/
def InWin (B C : Nat) (w : World) (b : Nat) : Prop := Fresh B w b ∧ b < C
theorem InWin.win {B C B' C' : Nat} {w w' : World} {b : Nat} (h : InWin B C w b) (hw : Win B' C' w w') : InWin B C w' b :=
  ⟨⟨h.1.1, Nat.lt_of_lt_of_le h.1.2.1 hw.2.1, fun o => (hw.2.2.2 b o h.1.2.1).trans (h.1.2.2 o)⟩, h.2⟩
/-- What marks make of the first i of n numbers. -/
def mInts (k : Nat) (xs : List Int) (i : Nat) : List Int := (List.range i).map (fun (j : Nat) => (k : Int) + (j : Int)) ++ xs.drop i
theorem mInts_zero (k : Nat) (xs : List Int) : mInts k xs 0 = xs := by simp [mInts]
theorem mInts_succ {k : Nat} {xs : List Int} {i : Nat} (h : i < xs.length) : mInts k xs (i + 1) = (mInts k xs i).set i ((k : Int) + (i : Int)) := by
  unfold mInts
  rw [List.range_succ, List.map_append, List.set_append_right _ _ (by simp), List.length_map, List.length_range, Nat.sub_self, List.drop_eq_getElem_cons h, List.set_cons_zero, List.append_assoc]
  rfl
theorem mInts_len {k : Nat} {xs : List Int} {i : Nat} (h : i ≤ xs.length) : (mInts k xs i).length = xs.length := by simp [mInts]; omega
end Go.Proofs.YtjeilgogjoidjaaGreat
