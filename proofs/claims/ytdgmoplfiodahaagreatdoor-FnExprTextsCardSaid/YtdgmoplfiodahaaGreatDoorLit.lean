import Derived.Test.YtdgmoplfiodahaaGreatDoorOwn
/-! Literals of slices; stores that keep what is read alike. -/
namespace Go.Proofs.YtdgmoplfiodahaaGreatDoor
open Go.RowKit
set_option linter.unusedVariables false
set_option linter.unusedSimpArgs false
theorem isSl_lit {α : Type} {k : Kd α} {w : World} {S : Nat → Prop} {b m : Nat} {cs : Array Value} {E : TypeId} {fr : Nat × Nat} {xs : List α} (h : w.heap[b]? = some (.cells cs E fr)) (hf : Flat k w S cs.toList xs) (hl : xs.length = m) (hm : m ≤ maxLen) (hb : S b) : IsSl k w S (some ⟨b, 0, none⟩) m m xs := by
  refine ⟨hl, Nat.le_refl _, hm, fun _ => ⟨b, 0, rfl, hb, fun i hi => ?_⟩⟩
  obtain ⟨cs', hc, hr⟩ := hf.get (List.getElem?_eq_getElem hi)
  exact ⟨cs', fun j hj => by rw [cell_of h, Nat.zero_add, ← hc j hj, Array.getElem?_toList], hr⟩
theorem flat_two {α : Type} {k : Kd α} {w : World} {S : Nat → Prop} {cs ds : List Value} {x y : α} (hr : k.rd w S cs x) (hs : k.rd w S ds y) : Flat k w S (cs ++ ds) [x, y] := ⟨cs, ds, rfl, hr, flat_one hs⟩
theorem flat_three {α : Type} {k : Kd α} {w : World} {S : Nat → Prop} {cs ds es : List Value} {x y z : α} (hr : k.rd w S cs x) (hs : k.rd w S ds y) (ht : k.rd w S es z) : Flat k w S (cs ++ (ds ++ es)) [x, y, z] := ⟨cs, ds ++ es, rfl, hr, flat_two hs ht⟩
end Go.Proofs.YtdgmoplfiodahaaGreatDoor
