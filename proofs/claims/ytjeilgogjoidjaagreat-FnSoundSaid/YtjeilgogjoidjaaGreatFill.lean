import Derived.Test.YtjeilgogjoidjaaGreatKinds
import Derived.OwnWalk
/-! Slices that a call makes and fills place by place. -/
namespace Go.Proofs.YtjeilgogjoidjaaGreat
open Go.RowKit
set_option linter.unusedVariables false
set_option linter.unusedSimpArgs false

/-- Made since block B, there, and not frozen. -/
def Fresh (B : Nat) (w : World) (b : Nat) : Prop := B ≤ b ∧ b < w.heap.size ∧ ∀ o, w.frozen? ⟨b, o, none⟩ = false
theorem frozen_of {w w' : World} {b : Nat} (h : w'.heap[b]? = w.heap[b]?) (o : Nat) : w'.frozen? ⟨b, o, none⟩ = w.frozen? ⟨b, o, none⟩ := World.frozen?_of_block (w := w) (a := ⟨b, o, none⟩) h
theorem Fresh.step {B : Nat} {w w' : World} {b : Nat} (h : Fresh B w b) (hs : w.heap.size ≤ w'.heap.size) (hb : w'.heap[b]? = w.heap[b]?) : Fresh B w' b :=
  ⟨h.1, Nat.lt_of_lt_of_le h.2.1 hs, fun o => by rw [frozen_of hb]; exact h.2.2 o⟩
theorem Fresh.grow {B : Nat} {w w' : World} {b : Nat} (h : Fresh B w b) (hg : Grow w w') : Fresh B w' b := h.step hg.size (hg.block h.2.1)
theorem Fresh.low {B B' : Nat} {w : World} {b : Nat} (h : Fresh B w b) (hB : B' ≤ B) : Fresh B' w b := ⟨Nat.le_trans hB h.1, h.2⟩

/-- Cells written one behind the other. -/
def setL (w : World) (g : Nat) : Nat → List Value → World
  | _, [] => w
  | o, v :: vs => setL (w.setCell ⟨g, o, none⟩ v) g (o + 1) vs
def curL (c : Array Value) : Nat → List Value → Array Value
  | _, [] => c
  | o, v :: vs => curL (c.setIfInBounds o v) (o + 1) vs
theorem setL_size (w : World) (g : Nat) : ∀ (o : Nat) (vs : List Value), (setL w g o vs).heap.size = w.heap.size
  | _, [] => rfl
  | o, v :: vs => (setL_size _ g (o + 1) vs).trans (by simp [World.setCell])
theorem setL_other (w : World) (g : Nat) {b : Nat} (hb : b ≠ g) : ∀ (o : Nat) (vs : List Value), (setL w g o vs).heap[b]? = w.heap[b]?
  | _, [] => rfl
  | o, v :: vs => by
    show (setL (w.setCell ⟨g, o, none⟩ v) g (o + 1) vs).heap[b]? = _
    rw [setL_other _ g hb]
    exact Below.heap_setCell _ _ _ _ hb
theorem setL_own {w : World} {g : Nat} {c : Array Value} {E : TypeId} {fr : Nat × Nat} (h : w.heap[g]? = some (.cells c E fr)) : ∀ (o : Nat) (vs : List Value), (setL w g o vs).heap[g]? = some (.cells (curL c o vs) E fr) := by
  intro o vs
  induction vs generalizing w c o with
  | nil => exact h
  | cons v vs ih =>
    refine ih (w := w.setCell ⟨g, o, none⟩ v) (c := c.setIfInBounds o v) ?_ (o + 1)
    simp [World.setCell, Array.getElem?_modify, h]
theorem setL_grow {a w : World} (h : Grow a w) {g : Nat} (hg : a.heap.size ≤ g) : ∀ (o : Nat) (vs : List Value), Grow a (setL w g o vs) := by
  intro o vs
  induction vs generalizing w o with
  | nil => exact h
  | cons v vs ih => exact ih (h.set hg v) (o + 1)
theorem curL_size (c : Array Value) : ∀ (o : Nat) (vs : List Value), (curL c o vs).size = c.size
  | _, [] => rfl
  | o, v :: vs => (curL_size _ (o + 1) vs).trans (by simp)
theorem curL_get (c : Array Value) : ∀ (o : Nat) (vs : List Value) (j : Nat), o + vs.length ≤ c.size → (curL c o vs)[j]? = if o ≤ j ∧ j < o + vs.length then vs[j - o]? else c[j]?
  | o, [], j, _ => by rw [if_neg (by simp)]; rfl
  | o, v :: vs, j, h => by
    show (curL (c.setIfInBounds o v) (o + 1) vs)[j]? = _
    simp only [List.length_cons] at h ⊢
    rw [curL_get _ (o + 1) vs j (by simp; omega), Array.getElem?_setIfInBounds]
    by_cases h1 : j = o
    · subst h1
      rw [if_neg (by omega), if_pos rfl, if_pos (by omega), if_pos (by omega), Nat.sub_self]; rfl
    · by_cases h2 : o + 1 ≤ j ∧ j < o + 1 + vs.length
      · rw [if_pos h2, if_pos (by omega)]
        rw [show j - o = (j - (o + 1)) + 1 from by omega]; rfl
      · rw [if_neg h2, if_neg (by omega), if_neg (by omega)]

/-- Block g, made since B, of len elements: the first m are those of xs; what they lead to lies in other blocks made since B. -/
def Fill {α : Type} (k : Kd α) (E : TypeId) (B : Nat) (w : World) (g len m : Nat) (xs : List α) : Prop :=
  B ≤ g ∧ ∃ cur : Array Value, w.heap[g]? = some (.cells cur E (0, 0)) ∧ cur.size = len * k.n ∧
    ∀ i, i < m → ∃ cs x, xs[i]? = some x ∧ (∀ j, j < k.n → cur[i * k.n + j]? = cs[j]?) ∧ k.rd w (fun b => Fresh B w b ∧ b ≠ g) cs x
theorem Fill.start {α : Type} {k : Kd α} {E : TypeId} {B : Nat} {w : World} {A : Option Addr} {g len : Nat} {rows : List Value} {xs : List α} (hA : A = some ⟨g, 0, none⟩) (h : w.ownsRow B E k.n (.slice A len len) len rows) : Fill k E B w g len 0 xs := by
  subst hA
  obtain ⟨_, h | ⟨g', cap, cur, hv, hB, hh, _, _, hs, _⟩⟩ := h
  · cases h.1
  · simp only [Value.slice.injEq, Option.some.injEq, Addr.mk.injEq, and_true, true_and] at hv
    obtain ⟨rfl, rfl⟩ := hv
    exact ⟨hB, cur, hh, hs, fun i hi => absurd hi (Nat.not_lt_zero i)⟩
theorem Fill.lt {α : Type} {k : Kd α} {E : TypeId} {B : Nat} {w : World} {g len m : Nat} {xs : List α} (h : Fill k E B w g len m xs) : g < w.heap.size := by
  obtain ⟨_, cur, hh, _⟩ := h
  rcases Nat.lt_or_ge g w.heap.size with h' | h'
  · exact h'
  · simp [Array.getElem?_eq_none h'] at hh
theorem Fill.free {α : Type} {k : Kd α} {E : TypeId} {B : Nat} {w : World} {g len m : Nat} {xs : List α} (h : Fill k E B w g len m xs) (o : Nat) : w.frozen? ⟨g, o, none⟩ = false := by
  obtain ⟨_, cur, hh, _⟩ := h
  exact (free_of hh).2 o
/-- The cells at m are there. -/
theorem Fill.there {α : Type} {k : Kd α} {E : TypeId} {B : Nat} {w : World} {g len m : Nat} {xs : List α} (h : Fill k E B w g len m xs) {i j : Nat} (hi : i < len) (hj : j < k.n) : ∃ v, w.cell? ⟨g, i * k.n + j, none⟩ = some v := by
  obtain ⟨_, cur, hh, hs, _⟩ := h
  rw [(free_of hh).1]
  have : i * k.n + j < cur.size := by
    rw [hs]
    have : (i + 1) * k.n ≤ len * k.n := Nat.mul_le_mul_right _ hi
    rw [Nat.add_mul, Nat.one_mul] at this
    omega
  exact ⟨_, Array.getElem?_eq_getElem this⟩
theorem Fill.grow {α : Type} {k : Kd α} {E : TypeId} {B : Nat} {w w' : World} {g len m : Nat} {xs : List α} (h : Fill k E B w g len m xs) (hg : Grow w w') : Fill k E B w' g len m xs := by
  have hl := h.lt
  obtain ⟨hB, cur, hh, hs, hi⟩ := h
  refine ⟨hB, cur, by rw [hg.block hl]; exact hh, hs, fun i him => ?_⟩
  obtain ⟨cs, x, hx, hc, hr⟩ := hi i him
  exact ⟨cs, x, hx, hc, k.mono hr (fun b hb => ⟨hb.1.grow hg, hb.2⟩) fun b hb => hg.block hb.1.2.1⟩
/-- One element more. -/
theorem Fill.put {α : Type} {k : Kd α} {E : TypeId} {B : Nat} {w : World} {g len m : Nat} {xs : List α} (h : Fill k E B w g len m xs) (hm : m < len) {cs : List Value} {x : α} (hx : xs[m]? = some x)
    (hr : k.rd w (fun b => Fresh B w b ∧ b ≠ g) cs x) : Fill k E B (setL w g (m * k.n) cs) g len (m + 1) xs := by
  have hcl := k.len hr
  obtain ⟨hB, cur, hh, hs, hi⟩ := h
  have hle : m * k.n + cs.length ≤ cur.size := by
    rw [hs, hcl]
    have : (m + 1) * k.n ≤ len * k.n := Nat.mul_le_mul_right _ hm
    rw [Nat.add_mul, Nat.one_mul] at this
    exact this
  have keep : ∀ {cs' : List Value} {y : α}, k.rd w (fun b => Fresh B w b ∧ b ≠ g) cs' y → k.rd (setL w g (m * k.n) cs) (fun b => Fresh B (setL w g (m * k.n) cs) b ∧ b ≠ g) cs' y := fun hr' =>
    k.mono hr' (fun b hb => ⟨hb.1.step (Nat.le_of_eq (setL_size w g _ _).symm) (setL_other w g hb.2 _ _), hb.2⟩) fun b hb => setL_other w g hb.2 _ _
  refine ⟨hB, _, setL_own hh _ _, (curL_size _ _ _).trans hs, fun i him => ?_⟩
  rcases Nat.lt_succ_iff_lt_or_eq.mp him with h1 | rfl
  · obtain ⟨cs', y, hy, hc, hr'⟩ := hi i h1
    refine ⟨cs', y, hy, fun j hj => ?_, keep hr'⟩
    rw [curL_get _ _ _ _ hle, if_neg]
    · exact hc j hj
    · have : (i + 1) * k.n ≤ m * k.n := Nat.mul_le_mul_right _ h1
      rw [Nat.add_mul, Nat.one_mul] at this
      omega
  · refine ⟨cs, x, hx, fun j hj => ?_, keep hr⟩
    rw [curL_get _ _ _ _ hle, if_pos (by omega), Nat.add_sub_cancel_left]
theorem Fill.done {α : Type} {k : Kd α} {E : TypeId} {B : Nat} {w : World} {g len : Nat} {xs : List α} (h : Fill k E B w g len len xs) (hl : xs.length = len) (hm : len ≤ maxLen) : IsSl k w (Fresh B w) (some ⟨g, 0, none⟩) len len xs := by
  have hlt := h.lt
  have hfr := h.free
  obtain ⟨hB, cur, hh, hs, hi⟩ := h
  refine ⟨hl, Nat.le_refl _, hm, fun _ => ⟨g, 0, rfl, ⟨hB, hlt, hfr⟩, fun i hix => ?_⟩⟩
  obtain ⟨cs, x, hx, hc, hr⟩ := hi i (by omega)
  have hx' : xs[i] = x := by rw [List.getElem?_eq_getElem hix] at hx; exact Option.some.inj hx
  refine ⟨cs, fun j hj => ?_, by rw [hx']; exact k.mono hr (fun b hb => hb.1) fun b hb => rfl⟩
  rw [(free_of hh).1, Nat.zero_add]
  exact hc j hj
/-- A copy in new memory: its cells. -/
def ToRes {α : Type} (k : Kd α) (x : α) (w : World) (e : Ending) (w' : World) : Prop := ∃ cs : List Value, e = .returned (.agg cs.toArray) ∧ k.rd w' (Fresh w.heap.size w') cs x ∧ Grow w w'
/-- A slice in new memory. -/
def SlRes {α : Type} (k : Kd α) (xs : List α) (w : World) (e : Ending) (w' : World) : Prop := ∃ A len cap, e = .returned (.slice A len cap) ∧ IsSl k w' (Fresh w.heap.size w') A len cap xs ∧ Grow w w'
theorem IsSl.fresh {α : Type} {k : Kd α} {w : World} {B : Nat} {A : Option Addr} {len cap : Nat} {xs : List α} (h : IsSl k w (Fresh B w) A len cap xs) : IsSl k w (· < w.heap.size) A len cap xs :=
  h.mono (fun b hb => hb.2.1) fun b hb => rfl
end Go.Proofs.YtjeilgogjoidjaaGreat
