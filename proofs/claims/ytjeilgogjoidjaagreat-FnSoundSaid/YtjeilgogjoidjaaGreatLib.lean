import Derived.Test.YtjeilgogjoidjaaGreatProg
import Derived.WalkKit
import Derived.WalkLawsBesides
import Derived.WalkSpells
import Derived.Below
import Derived.LoopTactic
import Derived.Outline
import Derived.Deep.RegionHeld3
import Derived.Deep.LoopGhost
import Derived.Lib.Hide
/-! Words of this seat's proofs that know no function of the program. -/
namespace Go.Proofs.YtjeilgogjoidjaaGreat
open Go.RowKit
set_option linter.unusedVariables false
set_option linter.unusedSimpArgs false

/-- Whatever was there in w is there in w', as it was. -/
def Grow (w w' : World) : Prop := Below w.heap.size w w'
theorem Grow.refl (w : World) : Grow w w := Below.refl _ _
theorem Grow.size {w w' : World} (h : Grow w w') : w.heap.size ≤ w'.heap.size := Below.size h
theorem Grow.alloc {a w : World} (h : Grow a w) (o : Obj) : Grow a (w.alloc o) := Below.alloc h h.size o
theorem Grow.drew {a w : World} (h : Grow a w) : Grow a w.drew := Below.drew h
theorem Grow.set {a w : World} (h : Grow a w) {p : Addr} (hp : a.heap.size ≤ p.block) (u : Value) : Grow a (w.setCell p u) := Below.setCell h hp u
theorem Grow.trans {a b c : World} (h : Grow a b) (k : Grow b c) : Grow a c := Below.trans h (Below.mono k (Below.size h))
theorem Grow.block {w w' : World} (h : Grow w w') {b : Nat} (hb : b < w.heap.size) : w'.heap[b]? = w.heap[b]? := Below.block h b hb
abbrev Same (w w' : World) : Prop := ∀ b o, b < w.heap.size → w'.cell? ⟨b, o, none⟩ = w.cell? ⟨b, o, none⟩
theorem Grow.same {w w' : World} (h : Grow w w') : Same w w' := fun b o hb => Below.cell (p := ⟨b, o, none⟩) h hb
theorem Grow.both {w w' : World} (h : Grow w w') : Grow w w' ∧ Same w w' := ⟨h, h.same⟩

/-- The call hands back v; whatever was there is as it was. -/
def Ret (w : World) (v : Value) (e : Ending) (w' : World) : Prop := e = .returned v ∧ Grow w w'
/-- The call hands back v; nothing has turned. -/
def Just (w : World) (v : Value) (e : Ending) (w' : World) : Prop := e = .returned v ∧ w = w'

theorem ret_int {k : IntKind} {a b : Int} (h : a = b) : Ending.returned (.int k a) = .returned (.int k b) := by rw [h]
theorem ret_bool {a b : Bool} (h : a = b) : Ending.returned (.bool a) = .returned (.bool b) := by rw [h]

/-- Two new blocks, the world behind them under one name. -/
theorem boxed2 {w W : World} {c d : Array Value} {t u : TypeId} (hW : (w.alloc (.cells c t)).alloc (.cells d u) = W) :
    Grow w W ∧ w.heap.size < W.heap.size ∧ w.heap.size + 1 < W.heap.size ∧
      (∀ o, W.cell? ⟨w.heap.size, o, none⟩ = c[o]?) ∧ ∀ o, W.cell? ⟨w.heap.size + 1, o, none⟩ = d[o]? := by
  subst hW
  refine ⟨((Grow.refl _).alloc _).alloc _, by simp; omega, by simp, fun o => ?_, fun o => ?_⟩
  · simp
  · simp
theorem boxed1 {w W : World} {c : Array Value} {t : TypeId} (hW : w.alloc (.cells c t) = W) :
    Grow w W ∧ w.heap.size < W.heap.size ∧ ∀ o, W.cell? ⟨w.heap.size, o, none⟩ = c[o]? := by
  subst hW
  exact ⟨(Grow.refl _).alloc _, by simp, fun o => by simp⟩
abbrev SameF (w w' : World) : Prop := ∀ b o, b < w.heap.size → w'.frozen? ⟨b, o, none⟩ = w.frozen? ⟨b, o, none⟩
theorem Grow.sameF {w w' : World} (h : Grow w w') : SameF w w' := fun b o hb => Below.frozen (p := ⟨b, o, none⟩) h hb
theorem new_block (w : World) (o : Obj) : (w.alloc o).heap[w.heap.size]? = some o := by
  show (w.heap.push o)[w.heap.size]? = some o
  rw [Array.getElem?_push, if_pos rfl]
theorem free_of {w : World} {b : Nat} {c : Array Value} {t : TypeId} (h : w.heap[b]? = some (.cells c t (0, 0))) : (∀ o, w.cell? ⟨b, o, none⟩ = c[o]?) ∧ ∀ o, w.frozen? ⟨b, o, none⟩ = false :=
  ⟨fun o => by simp [World.cell?, h], fun o => by simp [World.frozen?, h]⟩
/-- Three new blocks, the world behind them under one name. -/
theorem boxed3 {w W : World} {c d f : Array Value} {t u v : TypeId} (hW : ((w.alloc (.cells c t)).alloc (.cells d u)).alloc (.cells f v) = W) :
    Grow w W ∧ w.heap.size < W.heap.size ∧ w.heap.size + 1 < W.heap.size ∧ w.heap.size + 1 + 1 < W.heap.size ∧
      W.heap[w.heap.size]? = some (.cells c t (0, 0)) ∧ W.heap[w.heap.size + 1]? = some (.cells d u (0, 0)) ∧ W.heap[w.heap.size + 1 + 1]? = some (.cells f v (0, 0)) := by
  subst hW
  have g1 : Grow (w.alloc (.cells c t)) (((w.alloc (.cells c t)).alloc (.cells d u)).alloc (.cells f v)) := ((Grow.refl _).alloc _).alloc _
  have g2 : Grow ((w.alloc (.cells c t)).alloc (.cells d u)) (((w.alloc (.cells c t)).alloc (.cells d u)).alloc (.cells f v)) := (Grow.refl _).alloc _
  refine ⟨(((Grow.refl _).alloc _).alloc _).alloc _, by simp <;> omega, by simp <;> omega, by simp, ?_, ?_, ?_⟩
  · rw [g1.block (by simp)]; exact new_block _ _
  · rw [g2.block (by simp)]
    have := new_block (w.alloc (.cells c t)) (.cells d u)
    simpa using this
  · have := new_block ((w.alloc (.cells c t)).alloc (.cells d u)) (.cells f v)
    simpa using this
theorem boxedB {w W : World} {c : Array Value} {t : TypeId} (hW : w.alloc (.cells c t) = W) : Grow w W ∧ w.heap.size < W.heap.size ∧ W.heap[w.heap.size]? = some (.cells c t (0, 0)) := by
  subst hW
  exact ⟨(Grow.refl _).alloc _, by simp, new_block _ _⟩
theorem boxedB2 {w W : World} {c d : Array Value} {t u : TypeId} (hW : (w.alloc (.cells c t)).alloc (.cells d u) = W) : Grow w W ∧ w.heap.size < W.heap.size ∧ w.heap.size + 1 < W.heap.size ∧
    W.heap[w.heap.size]? = some (.cells c t (0, 0)) ∧ W.heap[w.heap.size + 1]? = some (.cells d u (0, 0)) := by
  subst hW
  refine ⟨((Grow.refl _).alloc _).alloc _, by simp; omega, by simp, ?_, ?_⟩
  · rw [Grow.block ((Grow.refl _).alloc _) (by simp)]; exact new_block _ _
  · have := new_block (w.alloc (.cells c t)) (.cells d u)
    simpa using this
end Go.Proofs.YtjeilgogjoidjaaGreat
