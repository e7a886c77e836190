import Derived.Test.YtjeilgogjoidjaaGreatKd
/-! Go's own functions over slices, with a function value handed to them. -/
namespace Go.Proofs.YtjeilgogjoidjaaGreat
open Go.RowKit
set_option linter.unusedVariables false
set_option linter.unusedSimpArgs false

theorem IsSl.grow {α : Type} {k : Kd α} {w w' : World} {A : Option Addr} {len cap : Nat} {xs : List α} (h : IsSl k w (· < w.heap.size) A len cap xs) (hg : Grow w w') :
    IsSl k w' (· < w'.heap.size) A len cap xs :=
  h.mono (fun b hb => Nat.lt_of_lt_of_le hb hg.size) fun b hb => hg.block hb
/-- A call of function fn enters it (it has a body). -/
structure Enters (P : Program) (fn : FuncId) : Prop where
  out : ∀ (a : Array Value) (w : World), Sem.run P (callFunc fn a) w = Result.ok (Next.enter fn a) w
/-- The first place, -1: there is none. -/
def idxOf {α : Type} (p : α → Bool) (xs : List α) : Int := match xs.findIdx? p with | some i => (i : Int) | none => -1
theorem idxOf_at {α : Type} {p : α → Bool} {xs : List α} {i : Nat} (hi : i < xs.length) (h : p xs[i] = true) (hb : ∀ j (hj : j < i), p (xs[j]'(by omega)) = false) : idxOf p xs = i := by
  unfold idxOf
  rw [List.findIdx?_eq_some_iff_getElem.mpr ⟨hi, h, fun j hj => by simp [hb j hj]⟩]
theorem idxOf_none {α : Type} {p : α → Bool} {xs : List α} (h : ∀ j (hj : j < xs.length), p xs[j] = false) : idxOf p xs = -1 := by
  unfold idxOf
  rw [List.findIdx?_eq_none_iff.mpr (fun x hx => by obtain ⟨j, hj, rfl⟩ := List.getElem_of_mem hx; exact h j hj)]
theorem idxOf_any {α : Type} (p : α → Bool) (xs : List α) : decide (0 ≤ idxOf p xs) = xs.any p := by
  unfold idxOf
  cases h : xs.findIdx? p with
  | some i => 
    obtain ⟨hi, hp, _⟩ := List.findIdx?_eq_some_iff_getElem.mp h
    simp only [Int.natCast_nonneg, decide_true]
    exact (List.any_eq_true.mpr ⟨xs[i], List.getElem_mem hi, hp⟩).symm
  | none =>
    rw [List.findIdx?_eq_none_iff] at h
    have : xs.any p = false := by rw [List.any_eq_false]; intro x hx; simp [h x hx]
    rw [this]; rfl
/-- The element at i: where it lies, and what its cells are. -/
theorem IsSl.elem {α : Type} {k : Kd α} {w : World} {S : Nat → Prop} {len cap : Nat} {A : Option Addr} {xs : List α} (h : IsSl k w S A len cap xs) {i : Nat} (hi : i < len) :
    ∃ b off x cs, A = some ⟨b, off, none⟩ ∧ S b ∧ xs[i]? = some x ∧ (∀ j, j < k.n → w.cell? ⟨b, off + (i * k.n + j), none⟩ = cs[j]?) ∧ k.rd w S cs x := by
  obtain ⟨h1, _, _, h4⟩ := h
  obtain ⟨b, off, hA, hb, hx⟩ := h4 (by omega)
  obtain ⟨cs, hc, hr⟩ := hx i (by omega)
  exact ⟨b, off, _, cs, hA, hb, List.getElem?_eq_getElem (by omega), hc, hr⟩
theorem int_at {w : World} {S : Nat → Prop} {len cap : Nat} {A : Option Addr} {xs : List Int} (h : IsSl Kd.int w S A len cap xs) {i : Nat} (hi : i < len) :
    ∃ b off x, A = some ⟨b, off, none⟩ ∧ Hid (xs[i]? = some x) ∧ w.cell? ⟨b, off + i, none⟩ = some (.int .i64 x) := by
  obtain ⟨b, off, x, cs, hA, _, hx, hc, hr⟩ := h.elem hi
  have := hc 0 (by decide)
  simp only [Kd.int] at hr
  subst hr
  exact ⟨b, off, x, hA, hx, by simpa [Kd.int] using this⟩
/-- None of the first k. -/
def NoneTo {α : Type} (p : α → Bool) (xs : List α) (k : Nat) : Prop := ∀ j x, j < k → xs[j]? = some x → p x = false
theorem NoneTo.zero {α : Type} (p : α → Bool) (xs : List α) : NoneTo p xs 0 := fun j _ h _ => absurd h (Nat.not_lt_zero j)
theorem NoneTo.succ {α : Type} {p : α → Bool} {xs : List α} {k : Nat} (h : NoneTo p xs k) {x : α} (hx : xs[k]? = some x) (hp : p x = false) : NoneTo p xs (k + 1) := fun j y hj hy => by
  rcases Nat.lt_succ_iff_lt_or_eq.mp hj with h1 | rfl
  · exact h j y h1 hy
  · rw [hx] at hy; cases hy; exact hp
theorem NoneTo.done {α : Type} {p : α → Bool} {xs : List α} {k : Nat} (h : NoneTo p xs k) (hk : xs.length ≤ k) : idxOf p xs = -1 :=
  idxOf_none fun j hj => h j xs[j] (by omega) (List.getElem?_eq_getElem hj)
theorem NoneTo.hit {α : Type} {p : α → Bool} {xs : List α} {k : Nat} (h : NoneTo p xs k) {x : α} (hx : xs[k]? = some x) (hp : p x = true) : idxOf p xs = k := by
  obtain ⟨hk, he⟩ := List.getElem?_eq_some_iff.mp hx
  exact idxOf_at hk (by rw [he]; exact hp) fun j hj => h j _ hj (List.getElem?_eq_getElem (by omega))
theorem mem_of_at {α : Type} {xs : List α} {k : Nat} {x : α} (hx : xs[k]? = some x) : x ∈ xs := List.mem_of_getElem? hx
theorem indexFunc_int (fn : FuncId) (hfn : Enters Tryz.prog fn) (fi cp : Array Value) (p : Int → Bool) {A : Option Addr} {len cap : Nat} {xs : List Int} (w : World) (h : IsSl Kd.int w (· < w.heap.size) A len cap xs)
    (hf : ∀ x w', x ∈ xs → Grow w w' → Calls Tryz.prog fn (fi.push (.int .i64 x) ++ cp) w' (Ret w' (.bool (p x)))) :
    Calls Tryz.prog 105 #[.slice A len cap, .func (.func fn) fi cp] w (Ret w (.int .i64 (idxOf p xs))) := by
  have hlen : len ≤ maxLen := Nat.le_trans h.2.1 h.2.2.1
  have hxl := Lib.hid h.1
  have hfn' := hfn.out
  have HF := Lib.hid hf
  clear hf
  unfold maxLen at hlen
  go_enter Tryz.func105, Tryz.ntmps105
  go_wp2
  go_loopw [4, 5, 8] (fun _ _ i wr => ∃ k : Nat, k ≤ len ∧ i = .int .i64 k ∧ Grow w wr ∧ NoneTo p xs k) (fun _ _ i _ => len - (intOf i).toNat)
  case atStart => exact ⟨0, Nat.zero_le _, rfl, Grow.refl _, NoneTo.zero _ _⟩
  case round =>
    obtain ⟨k, hk, rfl, hg, hno⟩ := hrel
    by_cases hlt : k < len
    · obtain ⟨b, off, x, rfl, hx, hc⟩ := int_at (h.grow hg) hlt
      go_wp2_with fail
      refine (HF.out x _ (mem_of_at hx.out) hg).mono ?_
      rintro e w1 ⟨rfl, hb⟩
      by_cases hp : p x = true
      · go_wp2
        go_ret
        exact ⟨ret_int (hno.hit hx.out hp).symm, hg.trans hb⟩
      · replace hp : p x = false := by simpa using hp
        go_wp2
        go_roundw
        case rel => exact ⟨k + 1, by omega, by go_num, hg.trans hb, hno.succ hx.out hp⟩
        case measure => simp [intOf]; omega
    · go_wp2
      go_ret
      exact ⟨ret_int (hno.done (by rw [hxl.out]; omega)).symm, hg⟩
theorem containsFunc_int (fn : FuncId) (hfn : Enters Tryz.prog fn) (fi cp : Array Value) (p : Int → Bool) {A : Option Addr} {len cap : Nat} {xs : List Int} (w : World) (h : IsSl Kd.int w (· < w.heap.size) A len cap xs)
    (hf : ∀ x w', x ∈ xs → Grow w w' → Calls Tryz.prog fn (fi.push (.int .i64 x) ++ cp) w' (Ret w' (.bool (p x)))) :
    Calls Tryz.prog 55 #[.slice A len cap, .func (.func fn) fi cp] w (Ret w (.bool (xs.any p))) := by
  have HF := Lib.hid hf
  clear hf
  go_enter Tryz.func55, Tryz.ntmps55
  go_wp2_with fail
  refine (indexFunc_int fn hfn fi cp p w h HF.out).mono ?_
  rintro e w1 ⟨rfl, hb⟩
  go_wp2
  go_ret
  exact ⟨ret_bool (idxOf_any p xs), hb⟩
end Go.Proofs.YtjeilgogjoidjaaGreat
