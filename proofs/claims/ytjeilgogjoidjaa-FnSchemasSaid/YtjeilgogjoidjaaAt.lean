import Derived.Test.YtjeilgogjoidjaaIndex
/-! Columns and tables by their names. -/
namespace Go.Proofs.Ytjeilgogjoidjaa
open Go.RowKit
set_option linter.unusedVariables false
set_option linter.unusedSimpArgs false
def colP1 (name : ByteArray) (c : Col) : Bool := c.name.toList == name.toList
def tabP1 (name : ByteArray) (t : Table) : Bool := t.name.toList == name.toList
def colAtV (t : Table) (name : ByteArray) : Int := idxOf (colP1 name) t.cols
def tableAtV (s : List Table) (name : ByteArray) : Int := idxOf (tabP1 name) s
theorem fresh_rd {α : Type} {k : Kd α} {w : World} {B : Nat} {cs : List Value} {x : α} (h : k.rd w (Fresh B w) cs x) : k.rd w (· < w.heap.size) cs x :=
  k.mono h (fun b hb => hb.2.1) fun b hb => rfl
theorem enters_ColAt1 : Enters Try.prog 50 := ⟨fun a w => by go_simp⟩
theorem iColAt1_any (cs : List Value) (x : Col) (name : ByteArray) (b : Nat) (w : World) (h : Kd.col.rd w (· < w.heap.size) cs x) (hb : b < w.heap.size) (hc : w.cell? ⟨b, 0, none⟩ = some (.string name)) :
    Calls Try.prog 50 #[.agg cs.toArray, .pointer (some ⟨b, 0, none⟩)] w (Ret w (.bool (colP1 name x))) := by
  obtain ⟨rfl, h1, h2⟩ := h
  go_enter Try.func50, Try.ntmps50
  go_wp2
  go_ret
  exact ⟨rfl, (by repeat (with_reducible first | exact Grow.refl _ | assumption | refine Grow.drew ?_ | refine Grow.alloc ?_ _ | refine Grow.set ?_ (by first | exact Nat.le_refl _ | (simp; done) | (simp; omega) | omega) _ | exact And.left (by assumption) | refine Grow.trans ?_ (by assumption)))⟩
theorem iColAt_any (cs : List Value) (t : Table) (name : ByteArray) (w : World) (h : Kd.table.rd w (· < w.heap.size) cs t) :
    Calls Try.prog 11 #[.agg cs.toArray, .string name] w (Ret w (.int .i64 (colAtV t name))) := by
  obtain ⟨Acols, Lcols, Ccols, Akey, Lkey, Ckey, Auniques, Luniques, Cuniques, Achecks, Lchecks, Cchecks, Afks, Lfks, Cfks, rfl, zname, scols, skey, suniques, schecks, sfks⟩ := h
  go_enter Try.func11, Try.ntmps11
  go_wp2_with fail
  generalize hW : World.alloc (World.alloc w _) _ = W
  obtain ⟨hg, s0, s1, k0, k1⟩ := boxed2 hW
  clear hW
  refine (indexFunc_col _ enters_ColAt1 _ _ (colP1 name) W (scols.grow hg) (fun cs x w' hx hw hrd => by simpa using iColAt1_any cs x name _ w' hrd (Nat.lt_of_lt_of_le s1 hw.size) ((hw.same _ _ s1).trans (k1 0)))).mono ?_
  rintro e w1 ⟨rfl, hb⟩
  go_wp2
  go_ret
  exact ⟨rfl, hg.trans hb⟩
theorem sColAt_any (cs : List Value) (t : Table) (name : ByteArray) (w : World) (h : Kd.table.rd w (· < w.heap.size) cs t) :
    Calls Try.prog 16 #[.agg cs.toArray, .string name] w (Ret w (.int .i64 (colAtV t name))) := by
  obtain ⟨Acols, Lcols, Ccols, Akey, Lkey, Ckey, Auniques, Luniques, Cuniques, Achecks, Lchecks, Cchecks, Afks, Lfks, Cfks, rfl, zname, scols, skey, suniques, schecks, sfks⟩ := h
  have hlen : Lcols ≤ maxLen := Nat.le_trans scols.2.1 scols.2.2.1
  have hxl := Lib.hid scols.1
  unfold maxLen at hlen
  go_enter Try.func16, Try.ntmps16
  go_wp2_with fail
  generalize hW : World.alloc w _ = W
  obtain ⟨hg, hs', k1⟩ := boxed1 hW
  clear hW
  have hcur := Grow.refl W
  go_loopw [5] (fun i wr => ∃ k : Nat, k ≤ Lcols ∧ i = .int .i64 k ∧ Grow W wr ∧ NoneTo (colP1 name) t.cols k) (fun i _ => Lcols - (intOf i).toNat)
  case atStart => exact ⟨0, Nat.zero_le _, rfl, hcur, NoneTo.zero _ _⟩
  case round =>
    clear hcur
    obtain ⟨k, hk, rfl, hG, hno⟩ := hrel
    have hc := hG.same
    by_cases hlt : k < Lcols
    · obtain ⟨b, off, x, rfl, hx, _, hb, zn, zd, c0, c1, c2, c3, c4, c5, hrd⟩ := col_at (scols.grow (hg.trans hG)) hlt
      by_cases hp : x.name.toList = name.toList
      · have hp' := Lib.hid (show colP1 name x = true by simpa [colP1] using hp)
        go_wp2
        go_ret
        exact ⟨ret_int (hno.hit hx.out hp'.out).symm, hg.trans hG⟩
      · have hp' := Lib.hid (show colP1 name x = false by simpa [colP1] using hp)
        have hpb : (x.name.toList == name.toList) = false := by simpa using hp
        clear hp
        go_wp2
        go_roundw
        case rel => exact ⟨k + 1, by omega, by go_num, hG, hno.succ hx.out hp'.out⟩
        case measure => simp [intOf]; omega
    · go_wp2
      go_ret
      exact ⟨ret_int (hno.done (by rw [hxl.out]; omega)).symm, hg.trans hG⟩
theorem enters_TableAt1 : Enters Try.prog 48 := ⟨fun a w => by go_simp⟩
theorem iTableAt1_any (cs : List Value) (x : Table) (name : ByteArray) (b : Nat) (w : World) (h : Kd.table.rd w (· < w.heap.size) cs x) (hb : b < w.heap.size) (hc : w.cell? ⟨b, 0, none⟩ = some (.string name)) :
    Calls Try.prog 48 #[.agg cs.toArray, .pointer (some ⟨b, 0, none⟩)] w (Ret w (.bool (tabP1 name x))) := by
  obtain ⟨Acols, Lcols, Ccols, Akey, Lkey, Ckey, Auniques, Luniques, Cuniques, Achecks, Lchecks, Cchecks, Afks, Lfks, Cfks, rfl, zname, scols, skey, suniques, schecks, sfks⟩ := h
  go_enter Try.func48, Try.ntmps48
  go_wp2
  go_ret
  exact ⟨rfl, (by repeat (with_reducible first | exact Grow.refl _ | assumption | refine Grow.drew ?_ | refine Grow.alloc ?_ _ | refine Grow.set ?_ (by first | exact Nat.le_refl _ | (simp; done) | (simp; omega) | omega) _ | exact And.left (by assumption) | refine Grow.trans ?_ (by assumption)))⟩
theorem iTableAt_any {A : Option Addr} {len cap : Nat} {xs : List Table} (name : ByteArray) (w : World) (h : IsSl Kd.table w (· < w.heap.size) A len cap xs) :
    Calls Try.prog 9 #[.slice A len cap, .string name] w (Ret w (.int .i64 (tableAtV xs name))) := by
  go_enter Try.func9, Try.ntmps9
  go_wp2_with fail
  generalize hW : World.alloc w _ = W
  obtain ⟨hg, hs', k1⟩ := boxed1 hW
  clear hW
  have hcur := Grow.refl W
  refine (indexFunc_table _ enters_TableAt1 _ _ (tabP1 name) W (h.grow hg) (fun cs x w' hx hw hrd => by simpa using iTableAt1_any cs x name _ w' hrd (Nat.lt_of_lt_of_le hs' hw.size) ((hw.same _ _ hs').trans (k1 0)))).mono ?_
  rintro e w1 ⟨rfl, hb⟩
  go_wp2
  go_ret
  exact ⟨rfl, hg.trans hb⟩
theorem l3At_any {A : Option Addr} {len cap : Nat} {xs : List Table} (name : ByteArray) (w : World) (h : IsSl Kd.table w (· < w.heap.size) A len cap xs) :
    Calls Try.prog 53 #[.slice A len cap, .string name] w (Ret w (.int .i64 (tableAtV xs name))) := by
  have hlen : len ≤ maxLen := Nat.le_trans h.2.1 h.2.2.1
  have hxl := Lib.hid h.1
  unfold maxLen at hlen
  go_enter Try.func53, Try.ntmps53
  go_wp2
  go_loopw [5] (fun i wr => ∃ k : Nat, k ≤ len ∧ i = .int .i64 k ∧ Grow w wr ∧ NoneTo (tabP1 name) xs k) (fun i _ => len - (intOf i).toNat)
  case atStart => exact ⟨0, Nat.zero_le _, rfl, Grow.refl _, NoneTo.zero _ _⟩
  case round =>
    obtain ⟨k, hk, rfl, hG, hno⟩ := hrel
    by_cases hlt : k < len
    · obtain ⟨b, off, x, Acols, Lcols, Ccols, Akey, Lkey, Ckey, Auniques, Luniques, Cuniques, Achecks, Lchecks, Cchecks, Afks, Lfks, Cfks, rfl, hx, _, hb, zname, c0, c1, c2, c3, c4, c5, scols, skey, suniques, schecks, sfks, hrd⟩ := table_at (h.grow hG) hlt
      by_cases hp : x.name.toList = name.toList
      · have hp' := Lib.hid (show tabP1 name x = true by simpa [tabP1] using hp)
        go_wp2
        go_ret
        exact ⟨ret_int (hno.hit hx.out hp'.out).symm, hG⟩
      · have hp' := Lib.hid (show tabP1 name x = false by simpa [tabP1] using hp)
        have hpb : (x.name.toList == name.toList) = false := by simpa using hp
        clear hp
        go_wp2
        go_roundw
        case rel => exact ⟨k + 1, by omega, by go_num, hG, hno.succ hx.out hp'.out⟩
        case measure => simp [intOf]; omega
    · go_wp2
      go_ret
      exact ⟨ret_int (hno.done (by rw [hxl.out]; omega)).symm, hG⟩
theorem sTableAt_any {A : Option Addr} {len cap : Nat} {xs : List Table} (name : ByteArray) (w : World) (h : IsSl Kd.table w (· < w.heap.size) A len cap xs) :
    Calls Try.prog 15 #[.slice A len cap, .string name] w (Ret w (.int .i64 (tableAtV xs name))) := by
  go_enter Try.func15, Try.ntmps15
  go_wp2_with fail
  refine (l3At_any name _ h).mono ?_
  rintro e w1 ⟨rfl, hb⟩
  go_wp2
  go_ret
  exact ⟨rfl, hb⟩
end Go.Proofs.Ytjeilgogjoidjaa
