import Derived.Test.YtdgmoplfiodahaaGreatDoorApp
import Derived.Test.YtdgmoplfiodahaaGreatDoorLists
import Derived.Test.YtdgmoplfiodahaaGreatDoorWin
/-! Marks, and the look at them, over parts of expressions. -/
namespace Go.Proofs.YtdgmoplfiodahaaGreatDoor
open Go.RowKit
set_option linter.unusedVariables false
set_option linter.unusedSimpArgs false
/-- What marks make of the first i parts. -/
def mTok (k i : Nat) : Tok := ⟨(k : Int) + 5 * (i : Int), (k : Int) + 5 * (i : Int) + 1, ⟨(k : Int) + 5 * (i : Int) + 1 + 1, (k : Int) + 5 * (i : Int) + 1 + 1 + 1, markT (k + 5 * i + 4)⟩⟩
def mToks (k : Nat) (xs : List Tok) (i : Nat) : List Tok := (List.range i).map (mTok k) ++ xs.drop i
theorem mToks_zero (k : Nat) (xs : List Tok) : mToks k xs 0 = xs := by simp [mToks]
theorem mToks_succ {k : Nat} {xs : List Tok} {i : Nat} (h : i < xs.length) : mToks k xs (i + 1) = (mToks k xs i).set i (mTok k i) := by
  unfold mToks
  rw [List.range_succ, List.map_append, List.set_append_right _ _ (by simp), List.length_map, List.length_range, Nat.sub_self, List.drop_eq_getElem_cons h, List.set_cons_zero, List.append_assoc]
  rfl
theorem mToks_at {k n i : Nat} {xs : List Tok} (h : i < n) : (mToks k xs n)[i]? = some (mTok k i) := by
  unfold mToks
  rw [List.getElem?_append_left (by simp; exact h), List.getElem?_map, List.getElem?_range h]
  rfl
set_option maxHeartbeats 2000000 in
theorem markTokS_eq {B C : Nat} {A : Option Addr} {len cap : Nat} {xs : List Tok} (k : Nat) {z : Int} (hz : z = (k : Int)) (w : World) (h : IsSl Kd.tok w (InWin B C w) A len cap xs) (hk : k + 5 * len ≤ 2 ^ 62) :
    Calls Tryz.prog 8 #[.slice A len cap, .int .i64 z] w (fun e w' => e = .returned (.int .i64 ((k : Int) + 5 * (len : Int))) ∧ Win B C w w' ∧ IsSl Kd.tok w' (InWin B C w') A len cap (mToks k xs len)) := by
  subst hz
  have hlen : len ≤ maxLen := Nat.le_trans h.2.1 h.2.2.1
  have HX := Lib.hid h.1
  unfold maxLen at hlen
  go_enter Tryz.func8, Tryz.ntmps8
  go_wp2
  go_loopw [1, 5] (fun kv iv wr => ∃ i : Nat, i ≤ len ∧ kv = .int .i64 ((k : Int) + 5 * (i : Int)) ∧ iv = .int .i64 i ∧ Win B C w wr ∧ IsSl Kd.tok wr (InWin B C wr) A len cap (mToks k xs i)) (fun _ iv _ => len - (intOf iv).toNat)
  case atStart => exact ⟨0, Nat.zero_le _, by simp, rfl, Win.refl _ _ _, by rw [mToks_zero]; exact h⟩
  case round =>
    obtain ⟨i, hi, rfl, rfl, hw, hs⟩ := hrel
    by_cases hlt : i < len
    · obtain ⟨b, off, x, rfl, hx, hSb, hb, zv, c0, c1, c2, c3, c4, hrd⟩ := tok_at hs hlt
      have ff := hSb.1.2.2
      have i0 : (0 : Int) ≤ (i : Int) := Int.natCast_nonneg i
      have i1 : (i : Int) < (len : Int) := Int.ofNat_lt.mpr hlt
      have hlx : i < (mToks k xs i).length := (List.getElem?_eq_some_iff.mp hx.out).1
      have p1 := Lib.hid (hs.put1 plain_tok (j := 0) hlt (by decide) (v := .int .i64 ((k : Int) + 5 * (i : Int))) (y := ⟨(k : Int) + 5 * (i : Int), x.col, ⟨x.v.kind, x.v.n, x.v.s⟩⟩) (fun cs x' hx' hr => by
        obtain rfl : x' = _ := Option.some.inj (hx'.symm.trans hx.out)
        obtain ⟨rfl, hz⟩ := hr
        exact ⟨rfl, hz⟩))
      have e1 := Lib.hid (show ((mToks k xs i).set i ⟨(k : Int) + 5 * (i : Int), x.col, ⟨x.v.kind, x.v.n, x.v.s⟩⟩)[i]? = some ⟨(k : Int) + 5 * (i : Int), x.col, ⟨x.v.kind, x.v.n, x.v.s⟩⟩ by rw [List.getElem?_set, if_pos rfl, if_pos (by exact hlx)])
      have p2 := Lib.hid (p1.out.put1 plain_tok (j := 1) hlt (by decide) (v := .int .i64 ((k : Int) + 5 * (i : Int) + 1)) (y := ⟨(k : Int) + 5 * (i : Int), (k : Int) + 5 * (i : Int) + 1, ⟨x.v.kind, x.v.n, x.v.s⟩⟩) (fun cs x' hx' hr => by
        obtain rfl : x' = _ := Option.some.inj (hx'.symm.trans e1.out)
        obtain ⟨rfl, hz⟩ := hr
        exact ⟨rfl, hz⟩))
      have e2 := Lib.hid (show (((mToks k xs i).set i ⟨(k : Int) + 5 * (i : Int), x.col, ⟨x.v.kind, x.v.n, x.v.s⟩⟩).set i ⟨(k : Int) + 5 * (i : Int), (k : Int) + 5 * (i : Int) + 1, ⟨x.v.kind, x.v.n, x.v.s⟩⟩)[i]? = some ⟨(k : Int) + 5 * (i : Int), (k : Int) + 5 * (i : Int) + 1, ⟨x.v.kind, x.v.n, x.v.s⟩⟩ by rw [List.getElem?_set, if_pos rfl, if_pos (by simp only [List.length_set]; exact hlx)])
      have p3 := Lib.hid (p2.out.put1 plain_tok (j := 2) hlt (by decide) (v := .int .i64 ((k : Int) + 5 * (i : Int) + 1 + 1)) (y := ⟨(k : Int) + 5 * (i : Int), (k : Int) + 5 * (i : Int) + 1, ⟨(k : Int) + 5 * (i : Int) + 1 + 1, x.v.n, x.v.s⟩⟩) (fun cs x' hx' hr => by
        obtain rfl : x' = _ := Option.some.inj (hx'.symm.trans e2.out)
        obtain ⟨rfl, hz⟩ := hr
        exact ⟨rfl, hz⟩))
      have e3 := Lib.hid (show ((((mToks k xs i).set i ⟨(k : Int) + 5 * (i : Int), x.col, ⟨x.v.kind, x.v.n, x.v.s⟩⟩).set i ⟨(k : Int) + 5 * (i : Int), (k : Int) + 5 * (i : Int) + 1, ⟨x.v.kind, x.v.n, x.v.s⟩⟩).set i ⟨(k : Int) + 5 * (i : Int), (k : Int) + 5 * (i : Int) + 1, ⟨(k : Int) + 5 * (i : Int) + 1 + 1, x.v.n, x.v.s⟩⟩)[i]? = some ⟨(k : Int) + 5 * (i : Int), (k : Int) + 5 * (i : Int) + 1, ⟨(k : Int) + 5 * (i : Int) + 1 + 1, x.v.n, x.v.s⟩⟩ by rw [List.getElem?_set, if_pos rfl, if_pos (by simp only [List.length_set]; exact hlx)])
      have p4 := Lib.hid (p3.out.put1 plain_tok (j := 3) hlt (by decide) (v := .int .i64 ((k : Int) + 5 * (i : Int) + 1 + 1 + 1)) (y := ⟨(k : Int) + 5 * (i : Int), (k : Int) + 5 * (i : Int) + 1, ⟨(k : Int) + 5 * (i : Int) + 1 + 1, (k : Int) + 5 * (i : Int) + 1 + 1 + 1, x.v.s⟩⟩) (fun cs x' hx' hr => by
        obtain rfl : x' = _ := Option.some.inj (hx'.symm.trans e3.out)
        obtain ⟨rfl, hz⟩ := hr
        exact ⟨rfl, hz⟩))
      have e4 := Lib.hid (show (((((mToks k xs i).set i ⟨(k : Int) + 5 * (i : Int), x.col, ⟨x.v.kind, x.v.n, x.v.s⟩⟩).set i ⟨(k : Int) + 5 * (i : Int), (k : Int) + 5 * (i : Int) + 1, ⟨x.v.kind, x.v.n, x.v.s⟩⟩).set i ⟨(k : Int) + 5 * (i : Int), (k : Int) + 5 * (i : Int) + 1, ⟨(k : Int) + 5 * (i : Int) + 1 + 1, x.v.n, x.v.s⟩⟩).set i ⟨(k : Int) + 5 * (i : Int), (k : Int) + 5 * (i : Int) + 1, ⟨(k : Int) + 5 * (i : Int) + 1 + 1, (k : Int) + 5 * (i : Int) + 1 + 1 + 1, x.v.s⟩⟩)[i]? = some ⟨(k : Int) + 5 * (i : Int), (k : Int) + 5 * (i : Int) + 1, ⟨(k : Int) + 5 * (i : Int) + 1 + 1, (k : Int) + 5 * (i : Int) + 1 + 1 + 1, x.v.s⟩⟩ by rw [List.getElem?_set, if_pos rfl, if_pos (by simp only [List.length_set]; exact hlx)])
      have W4 := ((((hw.set (g := b) (o := off + (i * 5 + 0)) (vs := [.int .i64 ((k : Int) + 5 * (i : Int))]) hSb.1.1 hSb.2).set (g := b) (o := off + (i * 5 + 1)) (vs := [.int .i64 ((k : Int) + 5 * (i : Int) + 1)]) hSb.1.1 hSb.2).set (g := b) (o := off + (i * 5 + 2)) (vs := [.int .i64 ((k : Int) + 5 * (i : Int) + 1 + 1)]) hSb.1.1 hSb.2).set (g := b) (o := off + (i * 5 + 3)) (vs := [.int .i64 ((k : Int) + 5 * (i : Int) + 1 + 1 + 1)]) hSb.1.1 hSb.2)
      have S4 := (((((Win.refl B C wr).set (g := b) (o := off + (i * 5 + 0)) (vs := [.int .i64 ((k : Int) + 5 * (i : Int))]) hSb.1.1 hSb.2).set (g := b) (o := off + (i * 5 + 1)) (vs := [.int .i64 ((k : Int) + 5 * (i : Int) + 1)]) hSb.1.1 hSb.2).set (g := b) (o := off + (i * 5 + 2)) (vs := [.int .i64 ((k : Int) + 5 * (i : Int) + 1 + 1)]) hSb.1.1 hSb.2).set (g := b) (o := off + (i * 5 + 3)) (vs := [.int .i64 ((k : Int) + 5 * (i : Int) + 1 + 1 + 1)]) hSb.1.1 hSb.2)
      have P4 := p4.out
      have E4 := e4.out
      rw [List.set_set, List.set_set, List.set_set] at P4 E4
      simp only [setL, show Kd.tok.n = 5 from rfl, Nat.add_zero, ← Nat.add_assoc] at W4 S4 P4
      clear p1 p2 p3 p4 e1 e2 e3 e4 hrd
      go_wp2_with fail
      generalize hX : World.setCell _ _ _ = wa at W4 S4 P4 ⊢
      clear hX
      refine (markText_eq (n := k + 5 * i + 4) (by omega) _ (by omega)).mono ?_
      rintro e w1 ⟨rfl, hb1⟩
      have hBa : B ≤ wa.heap.size := Nat.le_trans (Nat.le_of_lt (Nat.lt_of_le_of_lt hSb.1.1 hSb.1.2.1)) S4.2.1
      have W5 := W4.grow hBa hb1
      have P5 := P4.mono (S' := InWin B C w1) (fun q hq => (hq.win S4).win ((Win.refl B C wa).grow hBa hb1)) (fun q hq => hb1.block (Nat.lt_of_lt_of_le hq.1.2.1 S4.2.1))
      obtain ⟨b', off', x', he, hx', hSb', hb', zv', d0, d1, d2, d3, d4, hrd'⟩ := tok_at P5 hlt
      simp only [Option.some.injEq, Addr.mk.injEq, and_true] at he
      obtain ⟨rfl, rfl⟩ := he
      have f2 := hSb'.1.2.2
      have P6 := Lib.hid (P5.put1 plain_tok (j := 4) hlt (by decide) (v := .string (markT (k + 5 * i + 4))) (y := mTok k i) (fun cs x'' hx'' hr => by
        obtain rfl := Option.some.inj (hx''.symm.trans E4)
        obtain ⟨rfl, hz⟩ := hr
        exact ⟨rfl, markT_size (k := k + 5 * i + 4) (by omega)⟩))
      have P7 := P6.out
      have W7 := W5.set (g := b) (o := off + (i * 5 + 4)) (vs := [.string (markT (k + 5 * i + 4))]) hSb.1.1 hSb.2
      rw [List.set_set, ← mToks_succ (by rw [HX.out]; exact hlt)] at P7
      simp only [setL, show Kd.tok.n = 5 from rfl, ← Nat.add_assoc] at P7 W7
      have HP7 := Lib.hid P7
      have HW7 := Lib.hid W7
      clear P5 P6 P7 W7 W5 P4 W4 E4 d0 d1 d2 d3 c0 c1 c2 c3 c4 hrd'
      go_wp2
      go_roundw
      case rel => exact ⟨i + 1, by omega, by go_num, by go_num, HW7.out, HP7.out.mono (fun _ hq => hq.win (Win.set (vs := [_]) (Win.refl B C w1) hSb.1.1 hSb.2)) (fun _ _ => rfl)⟩
      case measure => simp [intOf]; omega
    · obtain rfl : i = len := by omega
      go_wp2
      go_ret
      exact ⟨rfl, hw, hs⟩
set_option maxHeartbeats 2000000 in
theorem heldTokS_any {A : Option Addr} {len cap : Nat} {xs : List Tok} (k : Nat) {z : Int} (hz : z = (k : Int)) (w : World) (h : IsSl Kd.tok w (· < w.heap.size) A len cap (mToks k xs len)) (hk : k + 5 * len ≤ 2 ^ 62) :
    Calls Tryz.prog 9 #[.slice A len cap, .int .i64 z] w (Ret w (.int .i64 ((k : Int) + 5 * (len : Int)))) := by
  subst hz
  have hlen : len ≤ maxLen := Nat.le_trans h.2.1 h.2.2.1
  unfold maxLen at hlen
  go_enter Tryz.func9, Tryz.ntmps9
  go_wp2
  go_loopw [1, 5] (fun kv iv wr => ∃ i : Nat, i ≤ len ∧ kv = .int .i64 ((k : Int) + 5 * (i : Int)) ∧ iv = .int .i64 i ∧ Grow w wr) (fun _ iv _ => len - (intOf iv).toNat)
  case atStart => exact ⟨0, Nat.zero_le _, by simp, rfl, Grow.refl _⟩
  case round =>
    obtain ⟨i, hi, rfl, rfl, hg⟩ := hrel
    by_cases hlt : i < len
    · obtain ⟨b, off, x, rfl, hx, hSb, hb, zv, c0, c1, c2, c3, c4, hrd⟩ := tok_at (h.grow hg) hlt
      have hxe : x = mTok k i := Option.some.inj (hx.out.symm.trans (mToks_at hlt))
      subst hxe
      simp only [mTok] at c0 c1 c2 c3 c4
      have i0 : (0 : Int) ≤ (i : Int) := Int.natCast_nonneg i
      have i1 : (i : Int) < (len : Int) := Int.ofNat_lt.mpr hlt
      clear hx hrd
      go_wp2
      go_region_held3 (fun w' => Grow wr w' ∧ Same wr w') (exact Grow.both (by repeat (with_reducible first | exact Grow.refl _ | assumption | refine Grow.drew ?_ | refine Grow.alloc ?_ _ | refine Grow.set ?_ (by first | exact Nat.le_refl _ | (simp; done) | (simp; omega) | omega) _ | exact And.left (by assumption) | refine Grow.trans ?_ (by assumption)))) (first | (go_at_call 21; refine (markText_eq (n := k + 5 * i + 4) (by omega) _ (by omega)).mono ?_; rintro e w2 ⟨rfl, hb2⟩))
      obtain ⟨hcur, hc⟩ : Grow wr w2 ∧ Same wr w2 := by assumption
      go_wp2
      go_roundw
      case rel => exact ⟨i + 1, by omega, by go_num, by go_num, hg.trans hcur⟩
      case measure => simp [intOf]; omega
    · obtain rfl : i = len := by omega
      go_wp2
      go_ret
      exact ⟨rfl, hg⟩
end Go.Proofs.YtdgmoplfiodahaaGreatDoor
