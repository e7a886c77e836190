import Derived.Test.YtjeilgogjoidjaaGreatIndex
/-! Columns and tables by their names. -/
namespace Go.Proofs.YtjeilgogjoidjaaGreat
open Go.RowKit
set_option linter.unusedVariables false
set_option linter.unusedSimpArgs false
def colP1 (name : ByteArray) (c : Col) : Bool := c.name.toList == name.toList
def tabP1 (name : ByteArray) (t : Table) : Bool := t.name.toList == name.toList
def colAtV (t : Table) (name : ByteArray) : Int := idxOf (colP1 name) t.cols
def tableAtV (s : List Table) (name : ByteArray) : Int := idxOf (tabP1 name) s
theorem fresh_rd {α : Type} {k : Kd α} {w : World} {B : Nat} {cs : List Value} {x : α} (h : k.rd w (Fresh B w) cs x) : k.rd w (· < w.heap.size) cs x :=
  k.mono h (fun b hb => hb.2.1) fun b hb => rfl
theorem sColAt_any (cs : List Value) (t : Table) (name : ByteArray) (w : World) (h : Kd.table.rd w (· < w.heap.size) cs t) :
    Calls Tryz.prog 162 #[.agg cs.toArray, .string name] w (Ret w (.int .i64 (colAtV t name))) := by
  obtain ⟨Acols, Lcols, Ccols, Akey, Lkey, Ckey, Auniques, Luniques, Cuniques, Achecks, Lchecks, Cchecks, Afks, Lfks, Cfks, rfl, zname, scols, skey, suniques, schecks, sfks⟩ := h
  have hlen : Lcols ≤ maxLen := Nat.le_trans scols.2.1 scols.2.2.1
  have hxl := Lib.hid scols.1
  unfold maxLen at hlen
  go_enter Tryz.func162, Tryz.ntmps162
  go_wp2_with fail
  generalize hW : World.alloc w _ = W
  obtain ⟨hg, hs', k1⟩ := boxed1 hW
  clear hW
  have hcur := Grow.refl W
  go_loopw [5] (fun i wr => ∃ k : Nat, k ≤ Lcols ∧ i = .int .i64 k ∧ Grow W wr ∧ NoneTo (colP1 name) t.cols k) (fun i _ => Lcols - (intOf i).toNat)
  case atStart => exact ⟨0, Nat.zero_le _, rfl, hcur, NoneTo.zero _ _⟩
  case round =>
    clear hcur
    obtain ⟨k, hk, rfl, hG, hno⟩ := hrel
    have hc := hG.same
    by_cases hlt : k < Lcols
    · obtain ⟨b, off, x, rfl, hx, _, hb, zn, zd, c0, c1, c2, c3, c4, c5, hrd⟩ := col_at (scols.grow (hg.trans hG)) hlt
      by_cases hp : x.name.toList = name.toList
      · have hp' := Lib.hid (show colP1 name x = true by simpa [colP1] using hp)
        go_wp2
        go_ret
        exact ⟨ret_int (hno.hit hx.out hp'.out).symm, hg.trans hG⟩
      · have hp' := Lib.hid (show colP1 name x = false by simpa [colP1] using hp)
        have hpb : (x.name.toList == name.toList) = false := by simpa using hp
        clear hp
        go_wp2
        go_roundw
        case rel => exact ⟨k + 1, by omega, by go_num, hG, hno.succ hx.out hp'.out⟩
        case measure => simp [intOf]; omega
    · go_wp2
      go_ret
      exact ⟨ret_int (hno.done (by rw [hxl.out]; omega)).symm, hg.trans hG⟩
theorem enters_TableAt1 : Enters Tryz.prog 150 := ⟨fun a w => by go_simp⟩
theorem iTableAt1_any (cs : List Value) (x : Table) (name : ByteArray) (b : Nat) (w : World) (h : Kd.table.rd w (· < w.heap.size) cs x) (hb : b < w.heap.size) (hc : w.cell? ⟨b, 0, none⟩ = some (.string name)) :
    Calls Tryz.prog 150 #[.agg cs.toArray, .pointer (some ⟨b, 0, none⟩)] w (Ret w (.bool (tabP1 name x))) := by
  obtain ⟨Acols, Lcols, Ccols, Akey, Lkey, Ckey, Auniques, Luniques, Cuniques, Achecks, Lchecks, Cchecks, Afks, Lfks, Cfks, rfl, zname, scols, skey, suniques, schecks, sfks⟩ := h
  go_enter Tryz.func150, Tryz.ntmps150
  go_wp2
  go_ret
  exact ⟨rfl, (by repeat (with_reducible first | exact Grow.refl _ | assumption | refine Grow.drew ?_ | refine Grow.alloc ?_ _ | refine Grow.set ?_ (by first | exact Nat.le_refl _ | (simp; done) | (simp; omega) | omega) _ | exact And.left (by assumption) | refine Grow.trans ?_ (by assumption)))⟩
theorem iTableAt_any {A : Option Addr} {len cap : Nat} {xs : List Table} (name : ByteArray) (w : World) (h : IsSl Kd.table w (· < w.heap.size) A len cap xs) :
    Calls Tryz.prog 90 #[.slice A len cap, .string name] w (Ret w (.int .i64 (tableAtV xs name))) := by
  go_enter Tryz.func90, Tryz.ntmps90
  go_wp2_with fail
  generalize hW : World.alloc w _ = W
  obtain ⟨hg, hs', k1⟩ := boxed1 hW
  clear hW
  have hcur := Grow.refl W
  refine (indexFunc_table _ enters_TableAt1 _ _ (tabP1 name) W (h.grow hg) (fun cs x w' hx hw hrd => by simpa using iTableAt1_any cs x name _ w' hrd (Nat.lt_of_lt_of_le hs' hw.size) ((hw.same _ _ hs').trans (k1 0)))).mono ?_
  rintro e w1 ⟨rfl, hb⟩
  go_wp2
  go_ret
  exact ⟨rfl, hg.trans hb⟩
theorem l3At_any {A : Option Addr} {len cap : Nat} {xs : List Table} (name : ByteArray) (w : World) (h : IsSl Kd.table w (· < w.heap.size) A len cap xs) :
    Calls Tryz.prog 136 #[.slice A len cap, .string name] w (Ret w (.int .i64 (tableAtV xs name))) := by
  have hlen : len ≤ maxLen := Nat.le_trans h.2.1 h.2.2.1
  have hxl := Lib.hid h.1
  unfold maxLen at hlen
  go_enter Tryz.func136, Tryz.ntmps136
  go_wp2
  go_loopw [5] (fun i wr => ∃ k : Nat, k ≤ len ∧ i = .int .i64 k ∧ Grow w wr ∧ NoneTo (tabP1 name) xs k) (fun i _ => len - (intOf i).toNat)
  case atStart => exact ⟨0, Nat.zero_le _, rfl, Grow.refl _, NoneTo.zero _ _⟩
  case round =>
    obtain ⟨k, hk, rfl, hG, hno⟩ := hrel
    by_cases hlt : k < len
    · obtain ⟨b, off, x, Acols, Lcols, Ccols, Akey, Lkey, Ckey, Auniques, Luniques, Cuniques, Achecks, Lchecks, Cchecks, Afks, Lfks, Cfks, rfl, hx, _, hb, zname, c0, c1, c2, c3, c4, c5, scols, skey, suniques, schecks, sfks, hrd⟩ := table_at (h.grow hG) hlt
      by_cases hp : x.name.toList = name.toList
      · have hp' := Lib.hid (show tabP1 name x = true by simpa [tabP1] using hp)
        go_wp2
        go_ret
        exact ⟨ret_int (hno.hit hx.out hp'.out).symm, hG⟩
      · have hp' := Lib.hid (show tabP1 name x = false by simpa [tabP1] using hp)
        have hpb : (x.name.toList == name.toList) = false := by simpa using hp
        clear hp
        go_wp2
        go_roundw
        case rel => exact ⟨k + 1, by omega, by go_num, hG, hno.succ hx.out hp'.out⟩
        case measure => simp [intOf]; omega
    · go_wp2
      go_ret
      exact ⟨ret_int (hno.done (by rw [hxl.out]; omega)).symm, hG⟩
end Go.Proofs.YtjeilgogjoidjaaGreat
