import Derived.Test.YtjeilgogjoidjaaGreatVals
import Derived.ChangeArms
import Derived.KernelRfl
import Derived.DataReads
/-! How data lie in memory: kinds of data, slices of them, and that what can be read of an argument reads so. -/
namespace Go.Proofs.YtjeilgogjoidjaaGreat
open Go.RowKit
set_option linter.unusedVariables false
set_option linter.unusedSimpArgs false

/-- A kind of data: n cells each; 'rd w S cs a': in w the cells cs read as a, and all blocks on the way are in S. -/
structure Kd (α : Type) where
  n : Nat
  rd : World → (Nat → Prop) → List Value → α → Prop
  len : ∀ {w : World} {S : Nat → Prop} {cs : List Value} {a : α}, rd w S cs a → cs.length = n
  mono : ∀ {w w' : World} {S S' : Nat → Prop} {cs : List Value} {a : α}, rd w S cs a → (∀ b, S b → S' b) → (∀ b, S b → w'.heap[b]? = w.heap[b]?) → rd w' S' cs a

/-- A slice's value reads as xs. -/
def IsSl {α : Type} (k : Kd α) (w : World) (S : Nat → Prop) (A : Option Addr) (len cap : Nat) (xs : List α) : Prop :=
  xs.length = len ∧ len ≤ cap ∧ cap ≤ maxLen ∧
    (0 < len → ∃ b off, A = some ⟨b, off, none⟩ ∧ S b ∧
      ∀ i (h : i < xs.length), ∃ cs, (∀ j, j < k.n → w.cell? ⟨b, off + (i * k.n + j), none⟩ = cs[j]?) ∧ k.rd w S cs xs[i])

theorem IsSl.mono {α : Type} {k : Kd α} {w w' : World} {S S' : Nat → Prop} {A : Option Addr} {len cap : Nat} {xs : List α} (h : IsSl k w S A len cap xs)
    (hS : ∀ b, S b → S' b) (hw : ∀ b, S b → w'.heap[b]? = w.heap[b]?) : IsSl k w' S' A len cap xs := by
  obtain ⟨h1, h2, h3, h4⟩ := h
  refine ⟨h1, h2, h3, fun h0 => ?_⟩
  obtain ⟨b, off, hA, hb, hi⟩ := h4 h0
  refine ⟨b, off, hA, hS b hb, fun i h => ?_⟩
  obtain ⟨cs, hc, hr⟩ := hi i h
  exact ⟨cs, fun j hj => by rw [World.cell?_of_block (w := w) (hw b hb)]; exact hc j hj, k.mono hr hS hw⟩

def Kd.int : Kd Int where
  n := 1
  rd := fun _ _ cs a => cs = [.int .i64 a]
  len := fun h => by rw [h]; rfl
  mono := fun h _ _ => h
def Kd.bool : Kd Bool where
  n := 1
  rd := fun _ _ cs a => cs = [.bool a]
  len := fun h => by rw [h]; rfl
  mono := fun h _ _ => h
def Kd.byte : Kd Int where
  n := 1
  rd := fun _ _ cs a => cs = [.int .u8 a] ∧ 0 ≤ a ∧ a < 256
  len := fun h => by rw [h.1]; rfl
  mono := fun h _ _ => h
def Kd.str : Kd ByteArray where
  n := 1
  rd := fun _ _ cs a => cs = [.string a] ∧ a.size ≤ maxLen
  len := fun h => by rw [h.1]; rfl
  mono := fun h _ _ => h
def Kd.val : Kd Val where
  n := 3
  rd := fun _ _ cs a => cs = [.int .i64 a.kind, .int .i64 a.n, .string a.s] ∧ a.s.size ≤ maxLen
  len := fun h => by rw [h.1]; rfl
  mono := fun h _ _ => h
def Kd.sl {α : Type} (k : Kd α) : Kd (List α) where
  n := 1
  rd := fun w S cs xs => ∃ A len cap, cs = [.slice A len cap] ∧ IsSl k w S A len cap xs
  len := fun ⟨_, _, _, h, _⟩ => by rw [h]; rfl
  mono := fun ⟨A, len, cap, h, hs⟩ hS hw => ⟨A, len, cap, h, hs.mono hS hw⟩

/-- What can be read at type t reads so. -/
def Opens (P : Program) (t : TypeId) {α : Type} (k : Kd α) : Prop :=
  P.cellsOf t = k.n ∧ ∀ (H : Type) (enc : TypeId × Value → H) (w : World) (spare : Nat → Bool) (held : Bool) (fuel : Nat) (cs : List Value) (x : DataW H × List MemPlace),
    DataW.trod enc P w 0 spare held fuel t cs = some x → ∃ a, k.rd w (· < w.heap.size) cs a

theorem Opens.of {P : Program} {t : TypeId} {α : Type} {k : Kd α} (ho : Opens P t k) {H : Type} {enc : TypeId × Value → H} {w : World} {spare : Nat → Bool} {held : Bool} {v : Value} {d : DataW H} {p : List MemPlace}
    (h : DataW.Trod enc P w 0 spare held t v d p) : ∃ a, k.rd w (· < w.heap.size) v.cells.toList a := by
  obtain ⟨m, hm⟩ := h
  exact ho.2 _ _ _ _ _ _ _ _ hm
theorem opens_int {P : Program} {t : TypeId} (ht : P.underlying t = some (.int .i64)) (hc : P.cellsOf t = 1) : Opens P t Kd.int :=
  ⟨hc, fun _ _ _ _ _ _ _ _ h => let ⟨n, hn, _, _⟩ := DataW.trod_int ht h; ⟨n, hn⟩⟩
theorem opens_bool {P : Program} {t : TypeId} (ht : P.underlying t = some .bool) (hc : P.cellsOf t = 1) : Opens P t Kd.bool :=
  ⟨hc, fun _ _ _ _ _ _ _ _ h => let ⟨n, hn, _⟩ := DataW.trod_bool ht h; ⟨n, hn⟩⟩
theorem opens_str {P : Program} {t : TypeId} (ht : P.underlying t = some .string) (hc : P.cellsOf t = 1) : Opens P t Kd.str :=
  ⟨hc, fun _ _ _ _ _ _ _ _ h => let ⟨s, hs, _, hl⟩ := DataW.trod_string ht h; ⟨s, hs, hl⟩⟩
theorem cells_lt {w : World} {b off : Nat} {v : Value} (h : w.cell? ⟨b, off, none⟩ = some v) : b < w.heap.size := by
  rcases Nat.lt_or_ge b w.heap.size with h' | h'
  · exact h'
  · simp [World.cell?, Array.getElem?_eq_none h'] at h

theorem opens_sl {P : Program} {t e : TypeId} {α : Type} {k : Kd α} (ht : P.underlying t = some (.slice e)) (hc : P.cellsOf t = 1) (he : Opens P e k) (hn : 0 < k.n) : Opens P t k.sl := by
  refine ⟨hc, fun H enc w spare held fuel cs x h => ?_⟩
  rcases DataW.trod_slice ht h with ⟨hcs, _⟩ | ⟨a, len, cap, elems, rest, n, _, hcs, _, _, hl, hm, hlen, hel, _⟩
  · exact ⟨[], none, 0, 0, hcs, rfl, Nat.le_refl _, Nat.zero_le _, fun h => absurd h (Nat.lt_irrefl _)⟩
  · have each : ∀ i, i < len → ∃ y cs, w.cells? 0 (a.add (i * k.n)) k.n = some cs ∧ k.rd w (· < w.heap.size) cs y := fun i hi => by
      have h1 := hel i hi
      rw [List.getElem?_eq_getElem (by omega), he.1] at h1
      obtain ⟨cs, hcs, h2⟩ := Option.bind_eq_some_iff.mp h1
      obtain ⟨y, hy⟩ := he.2 H enc w spare held n cs _ h2
      exact ⟨y, cs, hcs, hy⟩
    obtain ⟨xs, hxl, hxs⟩ : ∃ xs : List α, xs.length = len ∧ ∀ i (h : i < xs.length), ∃ cs, w.cells? 0 (a.add (i * k.n)) k.n = some cs ∧ k.rd w (· < w.heap.size) cs xs[i] := by
      refine ⟨List.ofFn fun i : Fin len => (each i i.2).choose, by simp, fun i hi => ?_⟩
      simp only [List.length_ofFn] at hi
      simp only [List.getElem_ofFn]
      exact (each i hi).choose_spec
    refine ⟨xs, some a, len, cap, hcs, hxl, hl, hm, fun h0 => ?_⟩
    obtain ⟨cs0, hcs0, hr0⟩ := hxs 0 (by omega)
    have hs0 := World.cells?_some hcs0
    have hcl := k.len hr0
    obtain ⟨b, off, spot⟩ := a
    have hz : spot = none ∧ b < w.heap.size := by
      have h1 := hs0.2.2 0 hn
      rw [List.getElem?_eq_getElem (by omega)] at h1
      simp only [Nat.zero_mul, Addr.add, if_true] at h1
      unfold World.cell? at h1
      split at h1
      · rename_i hb
        have hb' : b < w.heap.size := by
          rcases Nat.lt_or_ge b w.heap.size with h' | h'
          · exact h'
          · simp [Array.getElem?_eq_none h'] at hb
        split at h1
        · cases h1
        · rename_i hsp; exact ⟨by simpa using hsp, hb'⟩
      · cases h1
    obtain ⟨rfl, hb⟩ := hz
    refine ⟨b, off, rfl, hb, fun i hi => ?_⟩
    obtain ⟨cs', hcs', hr'⟩ := hxs i hi
    refine ⟨cs', fun j hj => ?_, hr'⟩
    have h1 := (World.cells?_some hcs').2.2 j hj
    rw [← h1]
    congr 1
    unfold Addr.add
    split <;> split <;> simp_all <;> omega

/-- Three fields of one cell each. -/
theorem opens_val {P : Program} {t ti ts : TypeId} {f0 f1 f2 : Field} (ht : P.underlying t = some (.struct #[f0, f1, f2])) (hc : P.cellsOf t = 3)
    (hf : f0.type = ti ∧ f1.type = ti ∧ f2.type = ts ∧ f0.offset = 0 ∧ f1.offset = 1 ∧ f2.offset = 2) (hi : Opens P ti Kd.int) (hs : Opens P ts Kd.str) : Opens P t Kd.val := by
  refine ⟨hc, fun H enc w spare held fuel cs x h => ?_⟩
  obtain ⟨xs, n, _, _, hl, hxl, hx⟩ := DataW.trod_struct ht h
  obtain ⟨e0, e1, e2, o0, o1, o2⟩ := hf
  rw [hc] at hl
  match cs, hl with
  | [c0, c1, c2], _ =>
  have h0 := hx 0 f0 rfl
  have h1 := hx 1 f1 rfl
  have h2 := hx 2 f2 rfl
  have hxl' : xs.length = 3 := hxl
  rw [List.getElem?_eq_getElem (by omega), e0, o0, hi.1] at h0
  rw [List.getElem?_eq_getElem (by omega), e1, o1, hi.1] at h1
  rw [List.getElem?_eq_getElem (by omega), e2, o2, hs.1] at h2
  obtain ⟨a0, r0⟩ := hi.2 _ _ _ _ _ _ _ _ h0
  obtain ⟨a1, r1⟩ := hi.2 _ _ _ _ _ _ _ _ h1
  obtain ⟨a2, r2, r3⟩ := hs.2 _ _ _ _ _ _ _ _ h2
  simp [Kd.int, Kd.str] at r0 r1 r2
  exact ⟨⟨a0, a1, a2⟩, by rw [r0, r1, r2], r3⟩
theorem isSl_of {α : Type} {k : Kd α} {w : World} {S : Nat → Prop} {A : Option Addr} {len cap : Nat} {xs : List α} (h : k.sl.rd w S (Value.slice A len cap).cells.toList xs) : IsSl k w S A len cap xs := by
  obtain ⟨A', len', cap', he, hs⟩ := h
  simp [Value.cells] at he
  obtain ⟨rfl, rfl, rfl⟩ := he
  exact hs
/-- A struct's cells, written out. -/
theorem agg_of {cs : Array Value} {l : List Value} (h : (Value.agg cs).cells.toList = l) : cs = l.toArray := by
  rw [← h]; rfl
theorem u8_wf {n : Int} (hw : (Lit.int .u8 n).wf = true) : 0 ≤ n ∧ n < 256 := by
  have h1 : IntKind.u8.min = 0 := rfl
  have h2 : IntKind.u8.max = 255 := rfl
  simp [Lit.wf, h1, h2] at hw
  omega
theorem opens_byte {P : Program} {t : TypeId} (ht : P.underlying t = some (.int .u8)) (hc : P.cellsOf t = 1) : Opens P t Kd.byte :=
  ⟨hc, fun _ _ _ _ _ _ _ _ h => let ⟨n, hn, _, hw⟩ := DataW.trod_int ht h; ⟨n, hn, u8_wf hw⟩⟩
theorem opens_bytes : Opens Tryz.prog 22 Kd.byte.sl :=
  opens_sl Tryz.underlying22 (by kernel_rfl) (opens_byte Tryz.underlying5 (by kernel_rfl)) (by decide)
end Go.Proofs.YtjeilgogjoidjaaGreat
