import Derived.Test.YtjeilgogjoidjaaGreatLists
/-! slices.IndexFunc, slices.ContainsFunc over structs. -/
namespace Go.Proofs.YtjeilgogjoidjaaGreat
open Go.RowKit
set_option linter.unusedVariables false
set_option linter.unusedSimpArgs false
theorem indexFunc_col (fn : FuncId) (hfn : Enters Tryz.prog fn) (fi cp : Array Value) (p : Col → Bool) {A : Option Addr} {len cap : Nat} {xs : List Col} (w : World) (h : IsSl Kd.col w (· < w.heap.size) A len cap xs)
    (hf : ∀ cs x w', x ∈ xs → Grow w w' → Kd.col.rd w' (· < w'.heap.size) cs x → Calls Tryz.prog fn (fi.push (.agg cs.toArray) ++ cp) w' (Ret w' (.bool (p x)))) :
    Calls Tryz.prog 181 #[.slice A len cap, .func (.func fn) fi cp] w (Ret w (.int .i64 (idxOf p xs))) := by
  have hlen : len ≤ maxLen := Nat.le_trans h.2.1 h.2.2.1
  have hxl := Lib.hid h.1
  have hfn' := hfn.out
  have HF := Lib.hid hf
  clear hf
  unfold maxLen at hlen
  go_enter Tryz.func181, Tryz.ntmps181
  go_wp2
  go_loopw [4, 5, 8] (fun _ _ i wr => ∃ k : Nat, k ≤ len ∧ i = .int .i64 k ∧ Grow w wr ∧ NoneTo p xs k) (fun _ _ i _ => len - (intOf i).toNat)
  case atStart => exact ⟨0, Nat.zero_le _, rfl, Grow.refl _, NoneTo.zero _ _⟩
  case round =>
    obtain ⟨k, hk, rfl, hg, hno⟩ := hrel
    by_cases hlt : k < len
    · obtain ⟨b, off, x, rfl, hx, _, hb, zname, zdflt, c0, c1, c2, c3, c4, c5, hrd⟩ := col_at (h.grow hg) hlt
      go_wp2_with fail
      refine (HF.out _ x _ (mem_of_at hx.out) hg hrd).mono ?_
      rintro e w1 ⟨rfl, hb⟩
      by_cases hp : p x = true
      · go_wp2
        go_ret
        exact ⟨ret_int (hno.hit hx.out hp).symm, hg.trans hb⟩
      · replace hp : p x = false := by simpa using hp
        go_wp2
        go_roundw
        case rel => exact ⟨k + 1, by omega, by go_num, hg.trans hb, hno.succ hx.out hp⟩
        case measure => simp [intOf]; omega
    · go_wp2
      go_ret
      exact ⟨ret_int (hno.done (by rw [hxl.out]; omega)).symm, hg⟩
theorem containsFunc_col (fn : FuncId) (hfn : Enters Tryz.prog fn) (fi cp : Array Value) (p : Col → Bool) {A : Option Addr} {len cap : Nat} {xs : List Col} (w : World) (h : IsSl Kd.col w (· < w.heap.size) A len cap xs)
    (hf : ∀ cs x w', x ∈ xs → Grow w w' → Kd.col.rd w' (· < w'.heap.size) cs x → Calls Tryz.prog fn (fi.push (.agg cs.toArray) ++ cp) w' (Ret w' (.bool (p x)))) {r : Bool} (hr : xs.any p = r) :
    Calls Tryz.prog 167 #[.slice A len cap, .func (.func fn) fi cp] w (Ret w (.bool r)) := by
  subst hr
  have HF := Lib.hid hf
  clear hf
  go_enter Tryz.func167, Tryz.ntmps167
  go_wp2_with fail
  refine (indexFunc_col fn hfn fi cp p w h HF.out).mono ?_
  rintro e w1 ⟨rfl, hb⟩
  go_wp2
  go_ret
  exact ⟨ret_bool (idxOf_any p xs), hb⟩
theorem indexFunc_unique (fn : FuncId) (hfn : Enters Tryz.prog fn) (fi cp : Array Value) (p : Unique → Bool) {A : Option Addr} {len cap : Nat} {xs : List Unique} (w : World) (h : IsSl Kd.unique w (· < w.heap.size) A len cap xs)
    (hf : ∀ cs x w', x ∈ xs → Grow w w' → Kd.unique.rd w' (· < w'.heap.size) cs x → Calls Tryz.prog fn (fi.push (.agg cs.toArray) ++ cp) w' (Ret w' (.bool (p x)))) :
    Calls Tryz.prog 169 #[.slice A len cap, .func (.func fn) fi cp] w (Ret w (.int .i64 (idxOf p xs))) := by
  have hlen : len ≤ maxLen := Nat.le_trans h.2.1 h.2.2.1
  have hxl := Lib.hid h.1
  have hfn' := hfn.out
  have HF := Lib.hid hf
  clear hf
  unfold maxLen at hlen
  go_enter Tryz.func169, Tryz.ntmps169
  go_wp2
  go_loopw [4, 5, 8] (fun _ _ i wr => ∃ k : Nat, k ≤ len ∧ i = .int .i64 k ∧ Grow w wr ∧ NoneTo p xs k) (fun _ _ i _ => len - (intOf i).toNat)
  case atStart => exact ⟨0, Nat.zero_le _, rfl, Grow.refl _, NoneTo.zero _ _⟩
  case round =>
    obtain ⟨k, hk, rfl, hg, hno⟩ := hrel
    by_cases hlt : k < len
    · obtain ⟨b, off, x, Acols, Lcols, Ccols, rfl, hx, _, hb, c0, scols, hrd⟩ := unique_at (h.grow hg) hlt
      go_wp2_with fail
      refine (HF.out _ x _ (mem_of_at hx.out) hg hrd).mono ?_
      rintro e w1 ⟨rfl, hb⟩
      by_cases hp : p x = true
      · go_wp2
        go_ret
        exact ⟨ret_int (hno.hit hx.out hp).symm, hg.trans hb⟩
      · replace hp : p x = false := by simpa using hp
        go_wp2
        go_roundw
        case rel => exact ⟨k + 1, by omega, by go_num, hg.trans hb, hno.succ hx.out hp⟩
        case measure => simp [intOf]; omega
    · go_wp2
      go_ret
      exact ⟨ret_int (hno.done (by rw [hxl.out]; omega)).symm, hg⟩
theorem containsFunc_unique (fn : FuncId) (hfn : Enters Tryz.prog fn) (fi cp : Array Value) (p : Unique → Bool) {A : Option Addr} {len cap : Nat} {xs : List Unique} (w : World) (h : IsSl Kd.unique w (· < w.heap.size) A len cap xs)
    (hf : ∀ cs x w', x ∈ xs → Grow w w' → Kd.unique.rd w' (· < w'.heap.size) cs x → Calls Tryz.prog fn (fi.push (.agg cs.toArray) ++ cp) w' (Ret w' (.bool (p x)))) {r : Bool} (hr : xs.any p = r) :
    Calls Tryz.prog 143 #[.slice A len cap, .func (.func fn) fi cp] w (Ret w (.bool r)) := by
  subst hr
  have HF := Lib.hid hf
  clear hf
  go_enter Tryz.func143, Tryz.ntmps143
  go_wp2_with fail
  refine (indexFunc_unique fn hfn fi cp p w h HF.out).mono ?_
  rintro e w1 ⟨rfl, hb⟩
  go_wp2
  go_ret
  exact ⟨ret_bool (idxOf_any p xs), hb⟩
theorem indexFunc_check (fn : FuncId) (hfn : Enters Tryz.prog fn) (fi cp : Array Value) (p : Check → Bool) {A : Option Addr} {len cap : Nat} {xs : List Check} (w : World) (h : IsSl Kd.check w (· < w.heap.size) A len cap xs)
    (hf : ∀ cs x w', x ∈ xs → Grow w w' → Kd.check.rd w' (· < w'.heap.size) cs x → Calls Tryz.prog fn (fi.push (.agg cs.toArray) ++ cp) w' (Ret w' (.bool (p x)))) :
    Calls Tryz.prog 156 #[.slice A len cap, .func (.func fn) fi cp] w (Ret w (.int .i64 (idxOf p xs))) := by
  have hlen : len ≤ maxLen := Nat.le_trans h.2.1 h.2.2.1
  have hxl := Lib.hid h.1
  have hfn' := hfn.out
  have HF := Lib.hid hf
  clear hf
  unfold maxLen at hlen
  go_enter Tryz.func156, Tryz.ntmps156
  go_wp2
  go_loopw [4, 5, 8] (fun _ _ i wr => ∃ k : Nat, k ≤ len ∧ i = .int .i64 k ∧ Grow w wr ∧ NoneTo p xs k) (fun _ _ i _ => len - (intOf i).toNat)
  case atStart => exact ⟨0, Nat.zero_le _, rfl, Grow.refl _, NoneTo.zero _ _⟩
  case round =>
    obtain ⟨k, hk, rfl, hg, hno⟩ := hrel
    by_cases hlt : k < len
    · obtain ⟨b, off, x, Aexpr, Lexpr, Cexpr, rfl, hx, _, hb, c0, sexpr, hrd⟩ := check_at (h.grow hg) hlt
      go_wp2_with fail
      refine (HF.out _ x _ (mem_of_at hx.out) hg hrd).mono ?_
      rintro e w1 ⟨rfl, hb⟩
      by_cases hp : p x = true
      · go_wp2
        go_ret
        exact ⟨ret_int (hno.hit hx.out hp).symm, hg.trans hb⟩
      · replace hp : p x = false := by simpa using hp
        go_wp2
        go_roundw
        case rel => exact ⟨k + 1, by omega, by go_num, hg.trans hb, hno.succ hx.out hp⟩
        case measure => simp [intOf]; omega
    · go_wp2
      go_ret
      exact ⟨ret_int (hno.done (by rw [hxl.out]; omega)).symm, hg⟩
theorem containsFunc_check (fn : FuncId) (hfn : Enters Tryz.prog fn) (fi cp : Array Value) (p : Check → Bool) {A : Option Addr} {len cap : Nat} {xs : List Check} (w : World) (h : IsSl Kd.check w (· < w.heap.size) A len cap xs)
    (hf : ∀ cs x w', x ∈ xs → Grow w w' → Kd.check.rd w' (· < w'.heap.size) cs x → Calls Tryz.prog fn (fi.push (.agg cs.toArray) ++ cp) w' (Ret w' (.bool (p x)))) {r : Bool} (hr : xs.any p = r) :
    Calls Tryz.prog 128 #[.slice A len cap, .func (.func fn) fi cp] w (Ret w (.bool r)) := by
  subst hr
  have HF := Lib.hid hf
  clear hf
  go_enter Tryz.func128, Tryz.ntmps128
  go_wp2_with fail
  refine (indexFunc_check fn hfn fi cp p w h HF.out).mono ?_
  rintro e w1 ⟨rfl, hb⟩
  go_wp2
  go_ret
  exact ⟨ret_bool (idxOf_any p xs), hb⟩
theorem indexFunc_fk (fn : FuncId) (hfn : Enters Tryz.prog fn) (fi cp : Array Value) (p : Fk → Bool) {A : Option Addr} {len cap : Nat} {xs : List Fk} (w : World) (h : IsSl Kd.fk w (· < w.heap.size) A len cap xs)
    (hf : ∀ cs x w', x ∈ xs → Grow w w' → Kd.fk.rd w' (· < w'.heap.size) cs x → Calls Tryz.prog fn (fi.push (.agg cs.toArray) ++ cp) w' (Ret w' (.bool (p x)))) :
    Calls Tryz.prog 95 #[.slice A len cap, .func (.func fn) fi cp] w (Ret w (.int .i64 (idxOf p xs))) := by
  have hlen : len ≤ maxLen := Nat.le_trans h.2.1 h.2.2.1
  have hxl := Lib.hid h.1
  have hfn' := hfn.out
  have HF := Lib.hid hf
  clear hf
  unfold maxLen at hlen
  go_enter Tryz.func95, Tryz.ntmps95
  go_wp2
  go_loopw [4, 5, 8] (fun _ _ i wr => ∃ k : Nat, k ≤ len ∧ i = .int .i64 k ∧ Grow w wr ∧ NoneTo p xs k) (fun _ _ i _ => len - (intOf i).toNat)
  case atStart => exact ⟨0, Nat.zero_le _, rfl, Grow.refl _, NoneTo.zero _ _⟩
  case round =>
    obtain ⟨k, hk, rfl, hg, hno⟩ := hrel
    by_cases hlt : k < len
    · obtain ⟨b, off, x, Acols, Lcols, Ccols, rfl, hx, _, hb, ztable, c0, c1, c2, c3, c4, scols, hrd⟩ := fk_at (h.grow hg) hlt
      go_wp2_with fail
      refine (HF.out _ x _ (mem_of_at hx.out) hg hrd).mono ?_
      rintro e w1 ⟨rfl, hb⟩
      by_cases hp : p x = true
      · go_wp2
        go_ret
        exact ⟨ret_int (hno.hit hx.out hp).symm, hg.trans hb⟩
      · replace hp : p x = false := by simpa using hp
        go_wp2
        go_roundw
        case rel => exact ⟨k + 1, by omega, by go_num, hg.trans hb, hno.succ hx.out hp⟩
        case measure => simp [intOf]; omega
    · go_wp2
      go_ret
      exact ⟨ret_int (hno.done (by rw [hxl.out]; omega)).symm, hg⟩
theorem containsFunc_fk (fn : FuncId) (hfn : Enters Tryz.prog fn) (fi cp : Array Value) (p : Fk → Bool) {A : Option Addr} {len cap : Nat} {xs : List Fk} (w : World) (h : IsSl Kd.fk w (· < w.heap.size) A len cap xs)
    (hf : ∀ cs x w', x ∈ xs → Grow w w' → Kd.fk.rd w' (· < w'.heap.size) cs x → Calls Tryz.prog fn (fi.push (.agg cs.toArray) ++ cp) w' (Ret w' (.bool (p x)))) {r : Bool} (hr : xs.any p = r) :
    Calls Tryz.prog 39 #[.slice A len cap, .func (.func fn) fi cp] w (Ret w (.bool r)) := by
  subst hr
  have HF := Lib.hid hf
  clear hf
  go_enter Tryz.func39, Tryz.ntmps39
  go_wp2_with fail
  refine (indexFunc_fk fn hfn fi cp p w h HF.out).mono ?_
  rintro e w1 ⟨rfl, hb⟩
  go_wp2
  go_ret
  exact ⟨ret_bool (idxOf_any p xs), hb⟩
theorem indexFunc_table (fn : FuncId) (hfn : Enters Tryz.prog fn) (fi cp : Array Value) (p : Table → Bool) {A : Option Addr} {len cap : Nat} {xs : List Table} (w : World) (h : IsSl Kd.table w (· < w.heap.size) A len cap xs)
    (hf : ∀ cs x w', x ∈ xs → Grow w w' → Kd.table.rd w' (· < w'.heap.size) cs x → Calls Tryz.prog fn (fi.push (.agg cs.toArray) ++ cp) w' (Ret w' (.bool (p x)))) :
    Calls Tryz.prog 149 #[.slice A len cap, .func (.func fn) fi cp] w (Ret w (.int .i64 (idxOf p xs))) := by
  have hlen : len ≤ maxLen := Nat.le_trans h.2.1 h.2.2.1
  have hxl := Lib.hid h.1
  have hfn' := hfn.out
  have HF := Lib.hid hf
  clear hf
  unfold maxLen at hlen
  go_enter Tryz.func149, Tryz.ntmps149
  go_wp2
  go_loopw [4, 5, 8] (fun _ _ i wr => ∃ k : Nat, k ≤ len ∧ i = .int .i64 k ∧ Grow w wr ∧ NoneTo p xs k) (fun _ _ i _ => len - (intOf i).toNat)
  case atStart => exact ⟨0, Nat.zero_le _, rfl, Grow.refl _, NoneTo.zero _ _⟩
  case round =>
    obtain ⟨k, hk, rfl, hg, hno⟩ := hrel
    by_cases hlt : k < len
    · obtain ⟨b, off, x, Acols, Lcols, Ccols, Akey, Lkey, Ckey, Auniques, Luniques, Cuniques, Achecks, Lchecks, Cchecks, Afks, Lfks, Cfks, rfl, hx, _, hb, zname, c0, c1, c2, c3, c4, c5, scols, skey, suniques, schecks, sfks, hrd⟩ := table_at (h.grow hg) hlt
      go_wp2_with fail
      refine (HF.out _ x _ (mem_of_at hx.out) hg hrd).mono ?_
      rintro e w1 ⟨rfl, hb⟩
      by_cases hp : p x = true
      · go_wp2
        go_ret
        exact ⟨ret_int (hno.hit hx.out hp).symm, hg.trans hb⟩
      · replace hp : p x = false := by simpa using hp
        go_wp2
        go_roundw
        case rel => exact ⟨k + 1, by omega, by go_num, hg.trans hb, hno.succ hx.out hp⟩
        case measure => simp [intOf]; omega
    · go_wp2
      go_ret
      exact ⟨ret_int (hno.done (by rw [hxl.out]; omega)).symm, hg⟩
theorem containsFunc_table (fn : FuncId) (hfn : Enters Tryz.prog fn) (fi cp : Array Value) (p : Table → Bool) {A : Option Addr} {len cap : Nat} {xs : List Table} (w : World) (h : IsSl Kd.table w (· < w.heap.size) A len cap xs)
    (hf : ∀ cs x w', x ∈ xs → Grow w w' → Kd.table.rd w' (· < w'.heap.size) cs x → Calls Tryz.prog fn (fi.push (.agg cs.toArray) ++ cp) w' (Ret w' (.bool (p x)))) {r : Bool} (hr : xs.any p = r) :
    Calls Tryz.prog 91 #[.slice A len cap, .func (.func fn) fi cp] w (Ret w (.bool r)) := by
  subst hr
  have HF := Lib.hid hf
  clear hf
  go_enter Tryz.func91, Tryz.ntmps91
  go_wp2_with fail
  refine (indexFunc_table fn hfn fi cp p w h HF.out).mono ?_
  rintro e w1 ⟨rfl, hb⟩
  go_wp2
  go_ret
  exact ⟨ret_bool (idxOf_any p xs), hb⟩
end Go.Proofs.YtjeilgogjoidjaaGreat
