import Derived.Test.YtjeilgogjoidjaaGreatHeld
import Derived.Test.YtjeilgogjoidjaaGreatLists
import Derived.Test.YtjeilgogjoidjaaGreatValLists
/-! Names, columns: the small rules of schemas. -/
namespace Go.Proofs.YtjeilgogjoidjaaGreat
open Go.RowKit
set_option linter.unusedVariables false
set_option linter.unusedSimpArgs false
/-- All, each at its place. -/
def allIx {α : Type} (p : Nat → α → Bool) (xs : List α) : Bool := (List.range xs.length).all fun i => match xs[i]? with | some x => p i x | none => true
def IxTo {α : Type} (p : Nat → α → Bool) (xs : List α) (k : Nat) : Prop := ∀ j x, j < k → xs[j]? = some x → p j x = true
theorem IxTo.zero {α : Type} (p : Nat → α → Bool) (xs : List α) : IxTo p xs 0 := fun j _ h _ => absurd h (Nat.not_lt_zero j)
theorem IxTo.succ {α : Type} {p : Nat → α → Bool} {xs : List α} {k : Nat} (h : IxTo p xs k) {x : α} (hx : xs[k]? = some x) (hp : p k x = true) : IxTo p xs (k + 1) := fun j y hj hy => by
  rcases Nat.lt_succ_iff_lt_or_eq.mp hj with h1 | rfl
  · exact h j y h1 hy
  · rw [hx] at hy; cases hy; exact hp
theorem IxTo.done {α : Type} {p : Nat → α → Bool} {xs : List α} {k : Nat} (h : IxTo p xs k) (hk : xs.length ≤ k) : allIx p xs = true := by
  unfold allIx
  rw [List.all_eq_true]
  intro i hi
  split
  · rename_i x hx; exact h i x (by have := List.mem_range.mp hi; omega) hx
  · rfl
theorem allIx_false {α : Type} {p : Nat → α → Bool} {xs : List α} {k : Nat} {x : α} (hx : xs[k]? = some x) (hp : p k x = false) : allIx p xs = false := by
  unfold allIx
  rw [List.all_eq_false]
  refine ⟨k, List.mem_range.mpr (List.getElem?_eq_some_iff.mp hx).1, ?_⟩
  simp only [hx, hp]
  decide
theorem allIx_at {α : Type} {p : Nat → α → Bool} {xs : List α} (h : allIx p xs = true) {k : Nat} {x : α} (hx : xs[k]? = some x) : p k x = true := by
  cases hp : p k x with
  | true => rfl
  | false => rw [allIx_false hx hp] at h; cases h
/-- The first m. -/
theorem IsSl.take {α : Type} {k : Kd α} {w : World} {S : Nat → Prop} {A : Option Addr} {len cap : Nat} {xs : List α} (h : IsSl k w S A len cap xs) {m : Nat} (hm : m ≤ len) : IsSl k w S A m cap (xs.take m) := by
  obtain ⟨h1, h2, h3, h4⟩ := h
  refine ⟨by rw [List.length_take]; omega, by omega, h3, fun h0 => ?_⟩
  obtain ⟨b, off, hA, hb, hi⟩ := h4 (by omega)
  refine ⟨b, off, hA, hb, fun i hix => ?_⟩
  rw [List.length_take] at hix
  obtain ⟨cs, hc, hr⟩ := hi i (by omega)
  exact ⟨cs, hc, by rw [List.getElem_take]; exact hr⟩
def letB (c : UInt8) : Bool := decide (97 ≤ c.toNat ∧ c.toNat ≤ 122)
def nameB (s : ByteArray) : Bool := s.data.toList.all letB && decide (1 ≤ s.size ∧ s.size ≤ 8)
def colP (n : Int) (l : List Int) (i : Nat) (c : Int) : Bool := inB c 0 (n - 1) && !(l.take i).contains c
def colsB (l : List Int) (n : Int) : Bool := decide (0 < l.length) && allIx (colP n l) l
theorem byte_at {s : ByteArray} {k : Nat} (h : k < s.size) : s.data.toList[k]? = some s[k] := by
  rw [Array.getElem?_toList, Array.getElem?_eq_getElem (by exact h)]
  rfl
theorem in_eq {a b c : Int} {r : Bool} (h : inB a b c = r) (w : World) : Calls Tryz.prog 57 #[.int .i64 a, .int .i64 b, .int .i64 c] w (Just w (.bool r)) := by
  subst h; exact in_any a b c w
theorem l1In_eq {a b c : Int} {r : Bool} (h : inB a b c = r) (w : World) : Calls Tryz.prog 42 #[.int .i64 a, .int .i64 b, .int .i64 c] w (Just w (.bool r)) := by
  subst h; exact l1In_any a b c w
theorem isName_any (s : ByteArray) (w : World) (hs : s.size ≤ maxLen) : Calls Tryz.prog 140 #[.string s] w (Ret w (.bool (nameB s))) := by
  unfold maxLen at hs
  have HZ := Lib.hid (show s.data.toList.length = s.size from Array.length_toList)
  go_enter Tryz.func140, Tryz.ntmps140
  go_wp2
  go_loopw [3, 6] (fun _ i wr => ∃ k : Nat, k ≤ s.size ∧ i = .int .i64 k ∧ Grow w wr ∧ AllTo letB s.data.toList k) (fun _ i _ => s.size - (intOf i).toNat)
  case atStart => exact ⟨0, Nat.zero_le _, rfl, Grow.refl _, AllTo.zero _ _⟩
  case round =>
    obtain ⟨k, hk, rfl, hg, hall⟩ := hrel
    by_cases hlt : k < s.size
    · have HC := Lib.hid (byte_at hlt)
      cases hL : letB s[k] with
      | true =>
        have hL2 : 97 ≤ (s[k].toNat : Int) ∧ (s[k].toNat : Int) ≤ 122 := by simp [letB] at hL; omega
        obtain ⟨a1, a2⟩ := hL2
        have HL := Lib.hid hL
        clear hL
        go_wp2
        go_roundw
        case rel => exact ⟨k + 1, by omega, by go_num, hg, hall.succ HC.out HL.out⟩
        case measure => simp [intOf]; omega
      | false =>
        have hf := Lib.hid (show nameB s = false by simp only [nameB, all_false HC.out hL, Bool.false_and])
        have hL2 : ¬ (97 ≤ (s[k].toNat : Int) ∧ (s[k].toNat : Int) ≤ 122) := by simp [letB] at hL; omega
        clear hL
        go_wp2
        all_goals first
          | omega
          | (go_ret; exact ⟨ret_bool hf.out.symm, hg⟩)
    · have hf := Lib.hid (show nameB s = inB s.size 1 8 by simp only [nameB, hall.done (by rw [HZ.out]; omega), Bool.true_and, inB]; rw [Bool.eq_iff_iff]; simp; omega)
      go_wp2_with (first | (go_at_call 57; (with_reducible refine (in_any _ _ _ _).mono ?_); rintro e w1 ⟨rfl, rfl⟩))
      go_ret
      exact ⟨ret_bool hf.out.symm, hg⟩
theorem l3Name_any (s : ByteArray) (w : World) (hs : s.size ≤ maxLen) : Calls Tryz.prog 160 #[.string s] w (Ret w (.bool (nameB s))) := by
  unfold maxLen at hs
  have HZ := Lib.hid (show s.data.toList.length = s.size from Array.length_toList)
  go_enter Tryz.func160, Tryz.ntmps160
  go_wp2
  go_loopw [3] (fun i wr => ∃ k : Nat, k ≤ s.size ∧ i = .int .i64 k ∧ Grow w wr ∧ AllTo letB s.data.toList k) (fun i _ => s.size - (intOf i).toNat)
  case atStart => exact ⟨0, Nat.zero_le _, rfl, Grow.refl _, AllTo.zero _ _⟩
  case round =>
    obtain ⟨k, hk, rfl, hg, hall⟩ := hrel
    by_cases hlt : k < s.size
    · have HC := Lib.hid (byte_at hlt)
      cases hL : letB s[k] with
      | true =>
        have hL2 : 97 ≤ (s[k].toNat : Int) ∧ (s[k].toNat : Int) ≤ 122 := by simp [letB] at hL; omega
        obtain ⟨a1, a2⟩ := hL2
        have HL := Lib.hid hL
        clear hL
        go_wp2
        go_roundw
        case rel => exact ⟨k + 1, by omega, by go_num, hg, hall.succ HC.out HL.out⟩
        case measure => simp [intOf]; omega
      | false =>
        have hf := Lib.hid (show nameB s = false by simp only [nameB, all_false HC.out hL, Bool.false_and])
        have hL2 : ¬ (97 ≤ (s[k].toNat : Int) ∧ (s[k].toNat : Int) ≤ 122) := by simp [letB] at hL; omega
        clear hL
        go_wp2
        all_goals first
          | omega
          | (go_ret; exact ⟨ret_bool hf.out.symm, hg⟩)
    · have hf := Lib.hid (show nameB s = inB s.size 1 8 by simp only [nameB, hall.done (by rw [HZ.out]; omega), Bool.true_and, inB]; rw [Bool.eq_iff_iff]; simp; omega)
      go_wp2_with (first | (go_at_call 42; (with_reducible refine (l1In_any _ _ _ _).mono ?_); rintro e w1 ⟨rfl, rfl⟩))
      go_ret
      exact ⟨ret_bool hf.out.symm, hg⟩
theorem index_int (v : Int) {A : Option Addr} {len cap : Nat} {xs : List Int} (w : World) (h : IsSl Kd.int w (· < w.heap.size) A len cap xs) :
    Calls Tryz.prog 172 #[.slice A len cap, .int .i64 v] w (Ret w (.int .i64 (idxOf (· == v) xs))) := by
  have hlen : len ≤ maxLen := Nat.le_trans h.2.1 h.2.2.1
  have hxl := Lib.hid h.1
  unfold maxLen at hlen
  go_enter Tryz.func172, Tryz.ntmps172
  go_wp2
  go_loopw [4, 5, 8] (fun _ _ i wr => ∃ k : Nat, k ≤ len ∧ i = .int .i64 k ∧ Grow w wr ∧ NoneTo (· == v) xs k) (fun _ _ i _ => len - (intOf i).toNat)
  case atStart => exact ⟨0, Nat.zero_le _, rfl, Grow.refl _, NoneTo.zero _ _⟩
  case round =>
    obtain ⟨k, hk, rfl, hg, hno⟩ := hrel
    by_cases hlt : k < len
    · obtain ⟨b, off, x, rfl, hx, hc⟩ := int_at (h.grow hg) hlt
      by_cases hp : x = v
      · have hp' := Lib.hid (show (x == v) = true by simpa using hp)
        subst hp
        go_wp2
        go_ret
        exact ⟨ret_int (hno.hit hx.out hp'.out).symm, hg⟩
      · have hp' := Lib.hid (show (x == v) = false by simpa using hp)
        have hpv : ¬ v = x := fun h => hp h.symm
        go_wp2
        go_roundw
        case rel => exact ⟨k + 1, by omega, by go_num, hg, hno.succ hx.out hp'.out⟩
        case measure => simp [intOf]; omega
    · go_wp2
      go_ret
      exact ⟨ret_int (hno.done (by rw [hxl.out]; omega)).symm, hg⟩
theorem contains_int (v : Int) {A : Option Addr} {len cap : Nat} {xs : List Int} (w : World) (h : IsSl Kd.int w (· < w.heap.size) A len cap xs) :
    Calls Tryz.prog 153 #[.slice A len cap, .int .i64 v] w (Ret w (.bool (xs.contains v))) := by
  have HC := Lib.hid (show decide (0 ≤ idxOf (· == v) xs) = xs.contains v by rw [idxOf_any, List.contains_eq_any_beq]; congr 1; funext x; rw [Bool.eq_iff_iff]; simp; exact eq_comm)
  go_enter Tryz.func153, Tryz.ntmps153
  go_wp2_with fail
  refine (index_int v w h).mono ?_
  rintro e w1 ⟨rfl, hb⟩
  go_wp2
  go_ret
  exact ⟨ret_bool HC.out, hb⟩
theorem contains_eq {v : Int} {A : Option Addr} {len cap : Nat} {xs : List Int} {w : World} {r : Bool} (hr : xs.contains v = r) (h : IsSl Kd.int w (· < w.heap.size) A len cap xs) :
    Calls Tryz.prog 153 #[.slice A len cap, .int .i64 v] w (Ret w (.bool r)) := by
  subst hr; exact contains_int v w h
theorem l1Has_any (v : Int) {A : Option Addr} {len cap : Nat} {xs : List Int} (w : World) (h : IsSl Kd.int w (· < w.heap.size) A len cap xs) :
    Calls Tryz.prog 175 #[.slice A len cap, .int .i64 v] w (Ret w (.bool (xs.contains v))) := by
  have hlen : len ≤ maxLen := Nat.le_trans h.2.1 h.2.2.1
  have hxl := Lib.hid h.1
  have HC := Lib.hid (show decide (0 ≤ idxOf (· == v) xs) = xs.contains v by rw [idxOf_any, List.contains_eq_any_beq]; congr 1; funext x; rw [Bool.eq_iff_iff]; simp; exact eq_comm)
  unfold maxLen at hlen
  go_enter Tryz.func175, Tryz.ntmps175
  go_wp2
  go_loopw [5] (fun i wr => ∃ k : Nat, k ≤ len ∧ i = .int .i64 k ∧ Grow w wr ∧ NoneTo (· == v) xs k) (fun i _ => len - (intOf i).toNat)
  case atStart => exact ⟨0, Nat.zero_le _, rfl, Grow.refl _, NoneTo.zero _ _⟩
  case round =>
    obtain ⟨k, hk, rfl, hg, hno⟩ := hrel
    by_cases hlt : k < len
    · obtain ⟨b, off, x, rfl, hx, hc⟩ := int_at (h.grow hg) hlt
      by_cases hp : x = v
      · have hp' := Lib.hid (show (x == v) = true by simpa using hp)
        subst hp
        go_wp2
        go_ret
        exact ⟨ret_bool (by rw [← HC.out, hno.hit hx.out hp'.out]; simp), hg⟩
      · have hp' := Lib.hid (show (x == v) = false by simpa using hp)
        have hpv : ¬ v = x := fun h => hp h.symm
        go_wp2
        go_roundw
        case rel => exact ⟨k + 1, by omega, by go_num, hg, hno.succ hx.out hp'.out⟩
        case measure => simp [intOf]; omega
    · go_wp2
      go_ret
      exact ⟨ret_bool (by rw [← HC.out, hno.done (by rw [hxl.out]; omega)]; simp), hg⟩
theorem l1Has_eq {v : Int} {A : Option Addr} {len cap : Nat} {xs : List Int} {w : World} {r : Bool} (hr : xs.contains v = r) (h : IsSl Kd.int w (· < w.heap.size) A len cap xs) :
    Calls Tryz.prog 175 #[.slice A len cap, .int .i64 v] w (Ret w (.bool r)) := by
  subst hr; exact l1Has_any v w h
theorem areColumns_any {A : Option Addr} {len cap : Nat} {xs : List Int} (n : Int) (w : World) (h : IsSl Kd.int w (· < w.heap.size) A len cap xs) (n0 : 0 ≤ n) (n1 : n ≤ 9223372036854775807) :
    Calls Tryz.prog 106 #[.slice A len cap, .int .i64 n] w (Ret w (.bool (colsB xs n))) := by
  have hlen : len ≤ maxLen := Nat.le_trans h.2.1 h.2.2.1
  have hcap : len ≤ cap := h.2.1
  have hcm : cap ≤ maxLen := h.2.2.1
  have hxl := Lib.hid h.1
  unfold maxLen at hlen hcm
  have n3 : IntKind.i64.wrap (n - 1) = n - 1 := IntWalk.i64_in _ (by omega)
  go_enter Tryz.func106, Tryz.ntmps106
  go_wp2
  go_loopw [5, 6, 9] (fun _ _ i wr => ∃ k : Nat, k ≤ len ∧ i = .int .i64 k ∧ Grow w wr ∧ IxTo (colP n xs) xs k) (fun _ _ i _ => len - (intOf i).toNat)
  case atStart => exact ⟨0, Nat.zero_le _, rfl, Grow.refl _, IxTo.zero _ _⟩
  case round =>
    obtain ⟨k, hk, rfl, hg, hall⟩ := hrel
    by_cases hlt : k < len
    · obtain ⟨b, off, x, rfl, hx, hc⟩ := int_at (h.grow hg) hlt
      have hb0 := cells_lt hc
      have i0 : (0 : Int) ≤ (k : Int) := Int.natCast_nonneg k
      have i1 : (k : Int) < (len : Int) := Int.ofNat_lt.mpr hlt
      have i2 : (k : Int) ≤ (cap : Int) := by omega
      have HT := Lib.hid ((h.grow hg).take (m := k) (by omega))
      cases hin : inB x 0 (n - 1) with
      | false =>
        have HI := Lib.hid hin
        have hf := Lib.hid (show colsB xs n = false by simp only [colsB, allIx_false hx.out (show colP n xs k x = false by rw [colP, hin, Bool.false_and]), Bool.and_false])
        clear hin
        go_wp2_with (first | (go_at_call 57; (with_reducible refine (in_eq HI.out _).mono ?_); rintro e w1 ⟨rfl, rfl⟩))
        go_ret
        exact ⟨ret_bool hf.out.symm, (by repeat (with_reducible first | exact Grow.refl _ | assumption | refine Grow.drew ?_ | refine Grow.alloc ?_ _ | refine Grow.set ?_ (by first | exact Nat.le_refl _ | (simp; done) | (simp; omega) | omega) _ | exact And.left (by assumption) | refine Grow.trans ?_ (by assumption)))⟩
      | true =>
        have HI := Lib.hid hin
        cases hco : (xs.take k).contains x with
        | true =>
          have HO := Lib.hid hco
          have hf := Lib.hid (show colsB xs n = false by simp only [colsB, allIx_false hx.out (show colP n xs k x = false by rw [colP, hco, Bool.not_true, Bool.and_false]), Bool.and_false])
          clear hin hco
          go_wp2_with (first | (go_at_call 57; (with_reducible refine (in_eq HI.out _).mono ?_); rintro e w1 ⟨rfl, rfl⟩) | (go_at_call 153; refine (contains_eq HO.out HT.out).mono ?_; rintro e w1 ⟨rfl, hb⟩))
          go_ret
          exact ⟨ret_bool hf.out.symm, (by repeat (with_reducible first | exact Grow.refl _ | assumption | refine Grow.drew ?_ | refine Grow.alloc ?_ _ | refine Grow.set ?_ (by first | exact Nat.le_refl _ | (simp; done) | (simp; omega) | omega) _ | exact And.left (by assumption) | refine Grow.trans ?_ (by assumption)))⟩
        | false =>
          have HO := Lib.hid hco
          have hp := Lib.hid (show colP n xs k x = true by rw [colP, hin, hco]; rfl)
          clear hin hco
          go_wp2_with (first | (go_at_call 57; (with_reducible refine (in_eq HI.out _).mono ?_); rintro e w1 ⟨rfl, rfl⟩) | (go_at_call 153; refine (contains_eq HO.out HT.out).mono ?_; rintro e w1 ⟨rfl, hb⟩))
          go_roundw
          case rel => exact ⟨k + 1, by omega, by go_num, (by repeat (with_reducible first | exact Grow.refl _ | assumption | refine Grow.drew ?_ | refine Grow.alloc ?_ _ | refine Grow.set ?_ (by first | exact Nat.le_refl _ | (simp; done) | (simp; omega) | omega) _ | exact And.left (by assumption) | refine Grow.trans ?_ (by assumption))), hall.succ hx.out hp.out⟩
          case measure => simp [intOf]; omega
    · have hf := Lib.hid (show colsB xs n = decide (0 < len) by simp only [colsB, hall.done (by rw [hxl.out]; omega), Bool.and_true, hxl.out])
      go_wp2
      go_ret
      exact ⟨ret_bool hf.out.symm, hg⟩
set_option maxHeartbeats 1000000 in
theorem l3Cols_any {A : Option Addr} {len cap : Nat} {xs : List Int} (n : Int) (w : World) (h : IsSl Kd.int w (· < w.heap.size) A len cap xs) (n0 : 0 ≤ n) (n1 : n ≤ 9223372036854775807) :
    Calls Tryz.prog 161 #[.slice A len cap, .int .i64 n] w (Ret w (.bool (colsB xs n))) := by
  have hlen : len ≤ maxLen := Nat.le_trans h.2.1 h.2.2.1
  have hcap : len ≤ cap := h.2.1
  have hcm : cap ≤ maxLen := h.2.2.1
  have hxl := Lib.hid h.1
  unfold maxLen at hlen hcm
  have n3 : IntKind.i64.wrap (n - 1) = n - 1 := IntWalk.i64_in _ (by omega)
  go_enter Tryz.func161, Tryz.ntmps161
  go_wp2
  go_loopw [5] (fun i wr => ∃ k : Nat, k ≤ len ∧ i = .int .i64 k ∧ Grow w wr ∧ IxTo (colP n xs) xs k) (fun i _ => len - (intOf i).toNat)
  case atStart => exact ⟨0, Nat.zero_le _, rfl, Grow.refl _, IxTo.zero _ _⟩
  case round =>
    obtain ⟨k, hk, rfl, hg, hall⟩ := hrel
    by_cases hlt : k < len
    · obtain ⟨b, off, x, rfl, hx, hc⟩ := int_at (h.grow hg) hlt
      have hb0 := cells_lt hc
      have i0 : (0 : Int) ≤ (k : Int) := Int.natCast_nonneg k
      have i1 : (k : Int) < (len : Int) := Int.ofNat_lt.mpr hlt
      have i2 : (k : Int) ≤ (cap : Int) := by omega
      have HT := Lib.hid ((h.grow hg).take (m := k) (by omega))
      cases hin : inB x 0 (n - 1) with
      | false =>
        have HI := Lib.hid hin
        have hf := Lib.hid (show colsB xs n = false by simp only [colsB, allIx_false hx.out (show colP n xs k x = false by rw [colP, hin, Bool.false_and]), Bool.and_false])
        clear hin
        go_wp2
        refine wp_region_held_drew (S := (fun w' => Grow wr w' ∧ Same wr w')) (by kernel_rfl) (by exact Grow.both (by repeat (with_reducible first | exact Grow.refl _ | assumption | refine Grow.drew ?_ | refine Grow.alloc ?_ _ | refine Grow.set ?_ (by first | exact Nat.le_refl _ | (simp; done) | (simp; omega) | omega) _ | exact And.left (by assumption) | refine Grow.trans ?_ (by assumption)))) (fun hHeld => ?_)
        ((refine tk 0 12 rfl rfl (v := ?_) ?_ ?_; rotate_left 1; (focus (intro w hSw; (try dsimp only at hSw); go_simp; (try with_reducible rfl); done)); all_goals (try simp only [Act.put, List.setIfInBounds_toArray, List.set_cons_zero, List.set_cons_succ])); (refine tk 1 13 rfl rfl (v := ?_) ?_ ?_; rotate_left 1; (focus (intro w hSw; (try dsimp only at hSw); go_simp; (try with_reducible rfl); done)); all_goals (try simp only [Act.put, List.setIfInBounds_toArray, List.set_cons_zero, List.set_cons_succ])); (refine tk 2 14 rfl rfl (v := ?_) ?_ ?_; rotate_left 1; (focus (intro w hSw; (try dsimp only at hSw); go_simp; (try with_reducible rfl); done)); all_goals (try simp only [Act.put, List.setIfInBounds_toArray, List.set_cons_zero, List.set_cons_succ])); (refine tk 3 15 rfl rfl (v := ?_) ?_ ?_; rotate_left 1; (focus (intro w hSw; (try dsimp only at hSw); go_simp; (try with_reducible rfl); done)); all_goals (try simp only [Act.put, List.setIfInBounds_toArray, List.set_cons_zero, List.set_cons_succ])); (refine tk 4 16 rfl rfl (v := ?_) ?_ ?_; rotate_left 1; (focus (intro w hSw; (try dsimp only at hSw); go_simp; (try with_reducible rfl); done)); all_goals (try simp only [Act.put, List.setIfInBounds_toArray, List.set_cons_zero, List.set_cons_succ])); (refine tk 5 17 rfl rfl (v := ?_) ?_ ?_; rotate_left 1; (focus (intro w hSw; (try dsimp only at hSw); go_simp; (try with_reducible rfl); done)); all_goals (try simp only [Act.put, List.setIfInBounds_toArray, List.set_cons_zero, List.set_cons_succ])))
        (refine wpAnyH_ready (rs := [6]) (by kernel_rfl) (by simp) ?_; refine AllReadyH.cons rfl (fun K hK => ?_) AllReadyH.nil; go_simp; (go_at_call 42; refine (l1In_eq HI.out _).mono ?_; rintro e w1 ⟨rfl, rfl⟩); refine hK.out _ _ (by exact Grow.both (by repeat (with_reducible first | exact Grow.refl _ | assumption | refine Grow.drew ?_ | refine Grow.alloc ?_ _ | refine Grow.set ?_ (by first | exact Nat.le_refl _ | (simp; done) | (simp; omega) | omega) _ | exact And.left (by assumption) | refine Grow.trans ?_ (by assumption)))) (fun hHeld => ?_); clear hK K; (try refine held_put 18 rfl ?_); (try simp only [Act.put, List.setIfInBounds_toArray, List.set_cons_zero, List.set_cons_succ]))
        ((refine tk 7 19 rfl rfl (v := ?_) ?_ ?_; rotate_left 1; (focus (intro w hSw; (try dsimp only at hSw); go_simp; (try with_reducible rfl); done)); all_goals (try simp only [Act.put, List.setIfInBounds_toArray, List.set_cons_zero, List.set_cons_succ])); (refine tk 8 20 rfl rfl (v := ?_) ?_ ?_; rotate_left 1; (focus (intro w hSw; (try dsimp only at hSw); go_simp; (try with_reducible rfl); done)); all_goals (try simp only [Act.put, List.setIfInBounds_toArray, List.set_cons_zero, List.set_cons_succ])))
        (refine sk 9 21 rfl rfl ?_; (try simp only [Act.put, List.setIfInBounds_toArray, List.set_cons_zero, List.set_cons_succ]); refine sk 10 22 rfl rfl ?_; (try simp only [Act.put, List.setIfInBounds_toArray, List.set_cons_zero, List.set_cons_succ]); refine sk 11 23 rfl rfl ?_; (try simp only [Act.put, List.setIfInBounds_toArray, List.set_cons_zero, List.set_cons_succ]); refine sk 12 24 rfl rfl ?_; (try simp only [Act.put, List.setIfInBounds_toArray, List.set_cons_zero, List.set_cons_succ]); refine sk 13 25 rfl rfl ?_; (try simp only [Act.put, List.setIfInBounds_toArray, List.set_cons_zero, List.set_cons_succ]); refine sk 14 26 rfl rfl ?_; (try simp only [Act.put, List.setIfInBounds_toArray, List.set_cons_zero, List.set_cons_succ]); refine sk 15 27 rfl rfl ?_; (try simp only [Act.put, List.setIfInBounds_toArray, List.set_cons_zero, List.set_cons_succ]); refine sk 16 28 rfl rfl ?_; (try simp only [Act.put, List.setIfInBounds_toArray, List.set_cons_zero, List.set_cons_succ]))
        ((refine tk 17 29 rfl rfl (v := ?_) ?_ ?_; rotate_left 1; (focus (intro w hSw; (try dsimp only at hSw); go_simp; (try with_reducible rfl); done)); all_goals (try simp only [Act.put, List.setIfInBounds_toArray, List.set_cons_zero, List.set_cons_succ])))
        refine wpAnyH_done (by kernel_rfl) ?_ _
        go_wp2
        go_ret
        exact ⟨ret_bool hf.out.symm, (by repeat (with_reducible first | exact Grow.refl _ | assumption | refine Grow.drew ?_ | refine Grow.alloc ?_ _ | refine Grow.set ?_ (by first | exact Nat.le_refl _ | (simp; done) | (simp; omega) | omega) _ | exact And.left (by assumption) | refine Grow.trans ?_ (by assumption)))⟩
      | true =>
        have HI := Lib.hid hin
        cases hco : (xs.take k).contains x with
        | true =>
          have HO := Lib.hid hco
          have hf := Lib.hid (show colsB xs n = false by simp only [colsB, allIx_false hx.out (show colP n xs k x = false by rw [colP, hco, Bool.not_true, Bool.and_false]), Bool.and_false])
          clear hin hco
          go_wp2
          go_region_held3 (fun w' => Grow wr w' ∧ Same wr w') (exact Grow.both (by repeat (with_reducible first | exact Grow.refl _ | assumption | refine Grow.drew ?_ | refine Grow.alloc ?_ _ | refine Grow.set ?_ (by first | exact Nat.le_refl _ | (simp; done) | (simp; omega) | omega) _ | exact And.left (by assumption) | refine Grow.trans ?_ (by assumption)))) (first | (go_at_call 42; refine (l1In_eq HI.out _).mono ?_; rintro e w1 ⟨rfl, rfl⟩) | (go_at_call 175; refine (l1Has_eq HO.out (HT.out.grow (And.left (by assumption)))).mono ?_; rintro e w1 ⟨rfl, hb⟩))
          obtain ⟨hcur, hc⟩ : Grow wr w1 ∧ Same wr w1 := by assumption
          go_wp2
          go_ret
          exact ⟨ret_bool hf.out.symm, (by repeat (with_reducible first | exact Grow.refl _ | assumption | refine Grow.drew ?_ | refine Grow.alloc ?_ _ | refine Grow.set ?_ (by first | exact Nat.le_refl _ | (simp; done) | (simp; omega) | omega) _ | exact And.left (by assumption) | refine Grow.trans ?_ (by assumption)))⟩
        | false =>
          have HO := Lib.hid hco
          have hp := Lib.hid (show colP n xs k x = true by rw [colP, hin, hco]; rfl)
          clear hin hco
          go_wp2
          go_region_held3 (fun w' => Grow wr w' ∧ Same wr w') (exact Grow.both (by repeat (with_reducible first | exact Grow.refl _ | assumption | refine Grow.drew ?_ | refine Grow.alloc ?_ _ | refine Grow.set ?_ (by first | exact Nat.le_refl _ | (simp; done) | (simp; omega) | omega) _ | exact And.left (by assumption) | refine Grow.trans ?_ (by assumption)))) (first | (go_at_call 42; refine (l1In_eq HI.out _).mono ?_; rintro e w1 ⟨rfl, rfl⟩) | (go_at_call 175; refine (l1Has_eq HO.out (HT.out.grow (And.left (by assumption)))).mono ?_; rintro e w1 ⟨rfl, hb⟩))
          obtain ⟨hcur, hc⟩ : Grow wr w1 ∧ Same wr w1 := by assumption
          go_wp2
          go_roundw
          case rel => exact ⟨k + 1, by omega, by go_num, hg.trans hcur, hall.succ hx.out hp.out⟩
          case measure => simp [intOf]; omega
    · have hf := Lib.hid (show colsB xs n = decide (0 < len) by simp only [colsB, hall.done (by rw [hxl.out]; omega), Bool.and_true, hxl.out])
      go_wp2
      go_ret
      exact ⟨ret_bool hf.out.symm, hg⟩
end Go.Proofs.YtjeilgogjoidjaaGreat
