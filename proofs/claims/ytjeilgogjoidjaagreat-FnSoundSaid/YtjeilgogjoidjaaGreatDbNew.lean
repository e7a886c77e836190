import Derived.Test.YtjeilgogjoidjaaGreatDbRows
/-! A new database: of each table no rows. -/
namespace Go.Proofs.YtjeilgogjoidjaaGreat
open Go.RowKit
set_option linter.unusedVariables false
set_option linter.unusedSimpArgs false
def newN (s : List Table) : Nat := if schemaOkB s then s.length else 0
def newOf (s : List Table) : List Data := List.replicate (newN s) ⟨[]⟩
theorem fill_zero {α : Type} {k : Kd α} {E : TypeId} {B : Nat} {w : World} {g len : Nat} {z : Array Value} {x : α} (h : w.ownsRow B E k.n (.slice (some ⟨g, 0, none⟩) len len) len (madeCells z (len * k.n)).toList) (hz : z.size = k.n)
    (hr : k.rd w (fun b => Fresh B w b ∧ b ≠ g) z.toList x) : Fill k E B w g len len (List.replicate len x) := by
  obtain ⟨_, h | ⟨g', cap, cur, hv, hB, hh, _, _, hs, ht⟩⟩ := h
  · cases h.1
  · simp only [Value.slice.injEq, Option.some.injEq, Addr.mk.injEq, and_true, true_and] at hv
    obtain ⟨rfl, rfl⟩ := hv
    refine ⟨hB, cur, hh, hs, fun i hi => ⟨z.toList, x, by simp [hi], fun j hj => ?_, hr⟩⟩
    have hlt : i * k.n + j < len * k.n := by
      have : (i + 1) * k.n ≤ len * k.n := Nat.mul_le_mul_right _ hi
      rw [Nat.add_mul, Nat.one_mul] at this
      omega
    have e1 : cur.toList = (madeCells z (len * k.n)).toList := by rw [← ht, List.take_of_length_le (by rw [Array.length_toList, hs]; exact Nat.le_refl _)]
    have e2 : cur = madeCells z (len * k.n) := Array.toList_inj.mp e1
    rw [e2, madeCells]
    simp only [Array.getElem?_map, Array.getElem?_range, hlt, if_true, Option.map_some, Array.getElem?_toList]
    rw [hz, Nat.mul_add_mod_self_right, Nat.mod_eq_of_lt hj, getElem!_pos z j (by omega), Array.getElem?_eq_getElem (by omega)]
/-- What DbNew hands back. -/
def NewRes (q : Bool) (ds : List Data) (w : World) (e : Ending) (w' : World) : Prop := ∃ A len cap, e = .returned (.tuple #[.slice A len cap, .bool q]) ∧ IsSl Kd.data w' (Fresh w.heap.size w') A len cap ds ∧ Grow w w'
theorem sSchemaOk_eq {A : Option Addr} {len cap : Nat} {s : List Table} {r : Bool} (hr : schemaOkB s = r) (w : World) (h : IsSl Kd.table w (· < w.heap.size) A len cap s) :
    Calls Tryz.prog 83 #[.slice A len cap] w (Ret w (.bool r)) := by subst hr; exact sSchemaOk_any w h
theorem sDbNew_any {A : Option Addr} {la ca : Nat} {s : List Table} {q : Bool} (hq : schemaOkB s = q) (w : World) (hs : IsSl Kd.table w (· < w.heap.size) A la ca s) :
    Calls Tryz.prog 78 #[.slice A la ca] w (NewRes q (newOf s) w) := by
  cases q with
  | false =>
    have HK := Lib.hid hq
    have hf := Lib.hid (show newOf s = [] by simp [newOf, newN, hq])
    clear hq
    go_enter Tryz.func78, Tryz.ntmps78
    go_wp2_with fail
    refine (sSchemaOk_eq HK.out _ hs).mono ?_
    rintro e w1 ⟨rfl, g1⟩
    go_wp2
    go_ret2
    exact ⟨none, 0, 0, rfl, by rw [hf.out]; exact IsSl.nil, g1⟩
  | true =>
    have h5 : la ≤ 5 := by rw [← hs.1]; exact schemaOk_len hq
    have HK := Lib.hid hq
    have hf := Lib.hid (show newOf s = List.replicate la ⟨[]⟩ by simp [newOf, newN, hq, hs.1])
    have HB := Lib.hid (show 24 * la ≤ 281474976710656 by omega)
    have HL := Lib.hid (show la ≤ maxLen by unfold maxLen; omega)
    clear hq
    obtain ⟨i0, hi, hz0, hz1, hz2⟩ := info_parts info_data
    go_enter Tryz.func78, Tryz.ntmps78
    go_wp2_with fail
    refine (sSchemaOk_eq HK.out _ hs).mono ?_
    rintro e w1 ⟨rfl, g1⟩
    go_wp2_with (at_make; refine wpList_make_full _ rfl _ _ 25 rfl w1.heap.size 39 i0 _ 1 Tryz.underlying25 hi hz0 hz1 .i64 .i64 _ _ la rfl rfl rfl rfl (by rw [hz2]; exact HB.out) HL.out (Nat.le_refl _) ?_; intro w0 hown hgrow)
    have hG : Grow w1 w0 := Below.grown (Below.refl _ _) hgrow (Nat.le_refl _) (fun k hk => by cases hk)
    have hF := Lib.hid (fill_zero (k := Kd.data) (x := ⟨[]⟩) hown rfl ⟨none, 0, 0, rfl, IsSl.nil⟩)
    clear hown hgrow hi hz0 hz1 hz2
    go_wp2
    go_ret2
    exact ⟨_, la, la, rfl, by rw [hf.out]; exact (hF.out.done (by simp) HL.out).lower g1.size, g1.trans hG⟩
end Go.Proofs.YtjeilgogjoidjaaGreat
