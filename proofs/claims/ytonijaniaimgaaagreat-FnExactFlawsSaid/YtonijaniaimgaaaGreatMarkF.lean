import Derived.Test.YtonijaniaimgaaaGreatFlawsL
import Derived.Test.YtonijaniaimgaaaGreatWin
/-! Marks, and the look at them, over flaws; how many flaws there may be. -/
namespace Go.Proofs.YtonijaniaimgaaaGreat
open Go.RowKit
set_option linter.unusedVariables false
set_option linter.unusedSimpArgs false
theorem flat_len {α β : Type} (f : α → List β) (c : Nat) : ∀ (xs : List α), (∀ x ∈ xs, (f x).length ≤ c) → (xs.flatMap f).length ≤ c * xs.length
  | [], _ => by simp
  | x :: xs, h => by
    have h1 := h x (List.mem_cons_self ..)
    have h2 := flat_len f c xs (fun y hy => h y (List.mem_cons_of_mem _ hy))
    rw [List.flatMap_cons, List.length_append, List.length_cons, Nat.mul_add, Nat.mul_one]
    omega
theorem flawIf_len (b : Bool) (c i id : Int) : (flawIf b c i id).length ≤ 1 := by cases b <;> simp [flawIf]
theorem flawsOf_len (s : List Table) (db : List Data) : (flawsOf s db).length ≤ 1200 := by
  unfold flawsOf
  split
  · rename_i h
    have hlen : db.length = s.length := by simp only [dbOkB, Bool.and_eq_true] at h; exact db_len h.2
    have h5 : s.length ≤ 5 := by simp only [dbOkB, Bool.and_eq_true] at h; exact schemaOk_len h.1
    unfold flawsV
    refine Nat.le_trans (flat_len _ 240 _ fun k hk => ?_) (by rw [List.length_range]; omega)
    unfold flawD
    split
    · rename_i d t hd ht
      obtain ⟨t', ht', h1, h2, h3⟩ := db_table h hd
      refine Nat.le_trans (flat_len _ 4 _ fun r hr => ?_) (by omega)
      simp only [flawR, List.length_append]
      have := flawIf_len
      refine Nat.le_trans (Nat.add_le_add (Nat.add_le_add (Nat.add_le_add (flawIf_len _ _ _ _) (flawIf_len _ _ _ _)) (flawIf_len _ _ _ _)) (flawIf_len _ _ _ _)) (by decide)
    · exact Nat.zero_le _
  · exact Nat.zero_le _
theorem eqFlaw_any (a b c : Int) (w : World) :
    Calls Tryz.prog 58 #[.agg #[.int .i64 a, .int .i64 b, .int .i64 c], .agg #[.int .i64 a, .int .i64 b, .int .i64 c]] w (Ret w (.bool true)) := by
  go_enter Tryz.func58, Tryz.ntmps58
  go_wp2
  go_ret
  exact ⟨rfl, (by repeat (with_reducible first | exact Grow.refl _ | assumption | refine Grow.drew ?_ | refine Grow.alloc ?_ _ | refine Grow.set ?_ (by first | exact Nat.le_refl _ | (simp; done) | (simp; omega) | omega) _ | exact And.left (by assumption) | refine Grow.trans ?_ (by assumption)))⟩
theorem eqFlawS_any {A A' : Option Addr} {len len' cap cap' : Nat} {xs : List Flaw} (w : World) (h : IsSl Kd.flaw w (· < w.heap.size) A len cap xs) (h' : IsSl Kd.flaw w (· < w.heap.size) A' len' cap' xs) :
    Calls Tryz.prog 24 #[.slice A len cap, .slice A' len' cap'] w (Ret w (.bool true)) := by
  have hll : len' = len := h'.1.symm.trans h.1
  subst hll
  have hlen : len' ≤ maxLen := Nat.le_trans h.2.1 h.2.2.1
  unfold maxLen at hlen
  go_enter Tryz.func24, Tryz.ntmps24
  go_wp2
  go_loopw [5] (fun i wr => ∃ k : Nat, k ≤ len' ∧ i = .int .i64 k ∧ Grow w wr) (fun i _ => len' - (intOf i).toNat)
  case atStart => exact ⟨0, Nat.zero_le _, rfl, Grow.refl _⟩
  case round =>
    obtain ⟨k, hk, rfl, hg⟩ := hrel
    by_cases hlt : k < len'
    · obtain ⟨b, off, x, rfl, hx, _, hb, c0, c1, c2, hrd⟩ := flaw_at (h.grow hg) hlt
      obtain ⟨b', off', x', rfl, hx', _, hb', d0, d1, d2, hrd'⟩ := flaw_at (h'.grow hg) hlt
      obtain rfl : x = x' := Option.some.inj (hx.out.symm.trans hx'.out)
      have i0 : (0 : Int) ≤ (k : Int) := Int.natCast_nonneg k
      have i1 : (k : Int) < (len' : Int) := Int.ofNat_lt.mpr hlt
      clear hrd hrd'
      go_wp2
      go_region_held3 (fun w' => Grow wr w' ∧ Same wr w') (exact Grow.both (by repeat (with_reducible first | exact Grow.refl _ | assumption | refine Grow.drew ?_ | refine Grow.alloc ?_ _ | refine Grow.set ?_ (by first | exact Nat.le_refl _ | (simp; done) | (simp; omega) | omega) _ | exact And.left (by assumption) | refine Grow.trans ?_ (by assumption)))) (first | (go_at_call 58; refine (eqFlaw_any _ _ _ _).mono ?_; rintro e w2 ⟨rfl, hb⟩))
      obtain ⟨hcur, hc⟩ : Grow wr w2 ∧ Same wr w2 := by assumption
      go_wp2
      go_roundw
      case rel => exact ⟨k + 1, by omega, by go_num, hg.trans hcur⟩
      case measure => simp [intOf]; omega
    · go_wp2
      go_ret
      exact ⟨rfl, hg⟩
/-- What marks make of the first i flaws. -/
def mFlaw (k i : Nat) : Flaw := ⟨(k : Int) + 3 * (i : Int), (k : Int) + 3 * (i : Int) + 1, (k : Int) + 3 * (i : Int) + 1 + 1⟩
def mFlaws (k : Nat) (xs : List Flaw) (i : Nat) : List Flaw := (List.range i).map (mFlaw k) ++ xs.drop i
theorem mFlaws_zero (k : Nat) (xs : List Flaw) : mFlaws k xs 0 = xs := by simp [mFlaws]
theorem mFlaws_succ {k : Nat} {xs : List Flaw} {i : Nat} (h : i < xs.length) : mFlaws k xs (i + 1) = (mFlaws k xs i).set i (mFlaw k i) := by
  unfold mFlaws
  rw [List.range_succ, List.map_append, List.set_append_right _ _ (by simp), List.length_map, List.length_range, Nat.sub_self, List.drop_eq_getElem_cons h, List.set_cons_zero, List.append_assoc]
  rfl
theorem mFlaws_at {k n i : Nat} {xs : List Flaw} (h : i < n) : (mFlaws k xs n)[i]? = some (mFlaw k i) := by
  unfold mFlaws
  rw [List.getElem?_append_left (by simp; exact h), List.getElem?_map, List.getElem?_range h]
  rfl
theorem markFlawS_eq {B C : Nat} {A : Option Addr} {len cap : Nat} {xs : List Flaw} (k : Nat) {z : Int} (hz : z = (k : Int)) (w : World) (h : IsSl Kd.flaw w (InWin B C w) A len cap xs) (hk : k + 3 * len ≤ 2 ^ 62) :
    Calls Tryz.prog 27 #[.slice A len cap, .int .i64 z] w (fun e w' => e = .returned (.int .i64 ((k : Int) + 3 * (len : Int))) ∧ Win B C w w' ∧ IsSl Kd.flaw w' (InWin B C w') A len cap (mFlaws k xs len)) := by
  subst hz
  have HX := Lib.hid h.1
  go_enter Tryz.func27, Tryz.ntmps27
  go_wp2
  go_loopw [1, 5] (fun kv iv wr => ∃ i : Nat, i ≤ len ∧ kv = .int .i64 ((k : Int) + 3 * (i : Int)) ∧ iv = .int .i64 i ∧ Win B C w wr ∧ IsSl Kd.flaw wr (InWin B C wr) A len cap (mFlaws k xs i)) (fun _ iv _ => len - (intOf iv).toNat)
  case atStart => exact ⟨0, Nat.zero_le _, by simp, rfl, Win.refl _ _ _, by rw [mFlaws_zero]; exact h⟩
  case round =>
    obtain ⟨i, hi, rfl, rfl, hw, hs⟩ := hrel
    by_cases hlt : i < len
    · obtain ⟨b, off, x, rfl, hx, hSb, hb, c0, c1, c2, hrd⟩ := flaw_at hs hlt
      have ff := hSb.1.2.2
      have i0 : (0 : Int) ≤ (i : Int) := Int.natCast_nonneg i
      have i1 : (i : Int) < (len : Int) := Int.ofNat_lt.mpr hlt
      have hlx : i < (mFlaws k xs i).length := (List.getElem?_eq_some_iff.mp hx.out).1
      have p1 := Lib.hid (hs.put1 plain_flaw (j := 0) hlt (by decide) (v := .int .i64 ((k : Int) + 3 * (i : Int))) (y := ⟨(k : Int) + 3 * (i : Int), x.table, x.id⟩) (fun cs x' hx' hr => by
        obtain rfl : x' = x := Option.some.inj (hx'.symm.trans hx.out)
        obtain ⟨rfl, hz⟩ := hr
        exact ⟨rfl, hz⟩))
      have e1 := Lib.hid (show ((mFlaws k xs i).set i ⟨(k : Int) + 3 * (i : Int), x.table, x.id⟩)[i]? = some ⟨(k : Int) + 3 * (i : Int), x.table, x.id⟩ by rw [List.getElem?_set, if_pos rfl, if_pos hlx])
      have p2 := Lib.hid (p1.out.put1 plain_flaw (j := 1) hlt (by decide) (v := .int .i64 ((k : Int) + 3 * (i : Int) + 1)) (y := ⟨(k : Int) + 3 * (i : Int), (k : Int) + 3 * (i : Int) + 1, x.id⟩) (fun cs x' hx' hr => by
        obtain rfl : x' = _ := Option.some.inj (hx'.symm.trans e1.out)
        obtain ⟨rfl, hz⟩ := hr
        exact ⟨rfl, hz⟩))
      have e2 := Lib.hid (show (((mFlaws k xs i).set i ⟨(k : Int) + 3 * (i : Int), x.table, x.id⟩).set i ⟨(k : Int) + 3 * (i : Int), (k : Int) + 3 * (i : Int) + 1, x.id⟩)[i]? = some ⟨(k : Int) + 3 * (i : Int), (k : Int) + 3 * (i : Int) + 1, x.id⟩ by rw [List.getElem?_set, if_pos rfl, if_pos (by rw [List.length_set]; exact hlx)])
      have p3 := Lib.hid (p2.out.put1 plain_flaw (j := 2) hlt (by decide) (v := .int .i64 ((k : Int) + 3 * (i : Int) + 1 + 1)) (y := mFlaw k i) (fun cs x' hx' hr => by
        obtain rfl : x' = _ := Option.some.inj (hx'.symm.trans e2.out)
        obtain ⟨rfl, hz⟩ := hr
        exact ⟨rfl, hz⟩))
      have W1 := Lib.hid (hw.set (g := b) (o := off + (i * 3 + 0)) (vs := [.int .i64 ((k : Int) + 3 * (i : Int))]) hSb.1.1 hSb.2)
      have W2 := Lib.hid (W1.out.set (g := b) (o := off + (i * 3 + 1)) (vs := [.int .i64 ((k : Int) + 3 * (i : Int) + 1)]) hSb.1.1 hSb.2)
      have W3 := Lib.hid (W2.out.set (g := b) (o := off + (i * 3 + 2)) (vs := [.int .i64 ((k : Int) + 3 * (i : Int) + 1 + 1)]) hSb.1.1 hSb.2)
      have S3 := Lib.hid ((((Win.refl B C wr).set (g := b) (o := off + (i * 3 + 0)) (vs := [.int .i64 ((k : Int) + 3 * (i : Int))]) hSb.1.1 hSb.2).set (g := b) (o := off + (i * 3 + 1)) (vs := [.int .i64 ((k : Int) + 3 * (i : Int) + 1)]) hSb.1.1 hSb.2).set (g := b) (o := off + (i * 3 + 2)) (vs := [.int .i64 ((k : Int) + 3 * (i : Int) + 1 + 1)]) hSb.1.1 hSb.2)
      have V3 := W3.out
      have T3 := S3.out
      have P3 := p3.out
      rw [List.set_set, List.set_set, ← mFlaws_succ (by rw [HX.out]; exact hlt)] at P3
      simp only [setL, show Kd.flaw.n = 3 from rfl, Nat.add_zero, ← Nat.add_assoc] at V3 T3 P3
      have HP := Lib.hid P3
      have HW := Lib.hid V3
      have HT := Lib.hid T3
      clear p1 p2 p3 W1 W2 W3 S3 V3 T3 P3 e1 e2 hrd hlx
      go_wp2
      go_roundw
      case rel => exact ⟨i + 1, by omega, by go_num, by go_num, HW.out, HP.out.mono (fun _ hq => hq.win HT.out) (fun _ _ => rfl)⟩
      case measure => simp [intOf]; omega
    · obtain rfl : i = len := by omega
      go_wp2
      go_ret
      exact ⟨rfl, hw, hs⟩
theorem heldFlawS_eq {S : Nat → Prop} {A : Option Addr} {len cap : Nat} {xs : List Flaw} (k : Nat) {z : Int} (hz : z = (k : Int)) (w : World) (h : IsSl Kd.flaw w S A len cap (mFlaws k xs len)) (hk : k + 3 * len ≤ 2 ^ 62) :
    Calls Tryz.prog 28 #[.slice A len cap, .int .i64 z] w (Just w (.int .i64 ((k : Int) + 3 * (len : Int)))) := by
  subst hz
  go_enter Tryz.func28, Tryz.ntmps28
  go_wp2
  go_loopw [1, 5] (fun kv iv wr => ∃ i : Nat, i ≤ len ∧ kv = .int .i64 ((k : Int) + 3 * (i : Int)) ∧ iv = .int .i64 i ∧ w = wr) (fun _ iv _ => len - (intOf iv).toNat)
  case atStart => exact ⟨0, Nat.zero_le _, by simp, rfl, rfl⟩
  case round =>
    obtain ⟨i, hi, rfl, rfl, rfl⟩ := hrel
    by_cases hlt : i < len
    · obtain ⟨b, off, x, rfl, hx, hSb, hb, c0, c1, c2, hrd⟩ := flaw_at h hlt
      have hxe : x = mFlaw k i := Option.some.inj (hx.out.symm.trans (mFlaws_at hlt))
      subst hxe
      simp only [mFlaw] at c0 c1 c2
      have i0 : (0 : Int) ≤ (i : Int) := Int.natCast_nonneg i
      have i1 : (i : Int) < (len : Int) := Int.ofNat_lt.mpr hlt
      clear hx hrd
      go_wp2
      go_roundw
      case rel => exact ⟨i + 1, by omega, by go_num, by go_num, by simp⟩
      case measure => simp [intOf]; omega
    · obtain rfl : i = len := by omega
      go_wp2
      go_ret
      exact ⟨rfl, rfl⟩
end Go.Proofs.YtonijaniaimgaaaGreat
