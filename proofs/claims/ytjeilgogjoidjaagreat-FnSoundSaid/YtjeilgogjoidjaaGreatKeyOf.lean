import Derived.Test.YtjeilgogjoidjaaGreatLists
import Derived.Test.YtjeilgogjoidjaaGreatValLists
import Derived.Test.YtjeilgogjoidjaaGreatStack
import Derived.Deep.AppendLies
/-! The values in columns. -/
namespace Go.Proofs.YtjeilgogjoidjaaGreat
open Go.RowKit
set_option linter.unusedVariables false
set_option linter.unusedSimpArgs false
def valAtC (vals : List Val) (c : Int) : Val := (vals[c.toNat]?).getD ⟨0, 0, ⟨#[]⟩⟩
def keyV (cols : List Int) (vals : List Val) : List Val := cols.map (valAtC vals)
def knownV (cols : List Int) (vals : List Val) : Bool := cols.all fun c => decide ((valAtC vals c).kind ≠ 0)
def KeyRes (cols : List Int) (vals : List Val) (w : World) (e : Ending) (w' : World) : Prop := ∃ A len cap, e = .returned (.tuple #[.slice A len cap, .bool (knownV cols vals)]) ∧ IsSl Kd.val w' (Fresh w.heap.size w') A len cap (keyV cols vals) ∧ Grow w w'
theorem take_snoc {α : Type} {xs : List α} {k : Nat} {x : α} (hx : xs[k]? = some x) : xs.take (k + 1) = xs.take k ++ [x] := by
  obtain ⟨hk, rfl⟩ := List.getElem?_eq_some_iff.mp hx
  rw [List.take_succ_eq_append_getElem hk]
theorem keyV_snoc (cols : List Int) (c : Int) (vals : List Val) : keyV (cols ++ [c]) vals = keyV cols vals ++ [valAtC vals c] := by simp [keyV]
theorem knownV_snoc (cols : List Int) (c : Int) (vals : List Val) : knownV (cols ++ [c]) vals = (knownV cols vals && decide ((valAtC vals c).kind ≠ 0)) := by simp [knownV]
theorem own_growK {w w' : World} {B : Nat} {E : TypeId} {v : Value} {n size : Nat} {rows : List Value} (h : w.ownsRow B E size v n rows) (hg : Grow w w') : w'.ownsRow B E size v n rows := by
  obtain ⟨hr, h0 | ⟨g, cap', cur, hv, hB, hh, hle, hmx, hs, ht⟩⟩ := h
  · exact ⟨hr, .inl h0⟩
  · refine ⟨hr, .inr ⟨g, cap', cur, hv, hB, ?_, hle, hmx, hs, ht⟩⟩
    rw [hg.block]
    · exact hh
    · rcases Nat.lt_or_ge g w.heap.size with h' | h'
      · exact h'
      · simp [Array.getElem?_eq_none h'] at hh
theorem own_baseK {w : World} {B : Nat} {E : TypeId} {p : Nat} {len cap n size : Nat} {rows : List Value} (h : w.ownsRow B E size (.slice (some ⟨p, 0, none⟩) len cap) n rows) : B ≤ p := by
  obtain ⟨hr, h0 | ⟨g, cap', cur, hv, hB, hh, hle, hmx, hs, ht⟩⟩ := h
  · cases h0.1
  · simp only [Value.slice.injEq, Option.some.injEq, Addr.mk.injEq] at hv
    obtain ⟨⟨rfl, _⟩, _⟩ := hv
    exact hB
theorem own_ltK {w : World} {B : Nat} {E : TypeId} {p : Nat} {len cap n size : Nat} {rows : List Value} (h : w.ownsRow B E size (.slice (some ⟨p, 0, none⟩) len cap) n rows) : p < w.heap.size := by
  obtain ⟨hr, h0 | ⟨g, cap', cur, hv, hB, hh, hle, hmx, hs, ht⟩⟩ := h
  · cases h0.1
  · simp only [Value.slice.injEq, Option.some.injEq, Addr.mk.injEq] at hv
    obtain ⟨⟨rfl, _⟩, _⟩ := hv
    rcases Nat.lt_or_ge p w.heap.size with h' | h'
    · exact h'
    · simp [Array.getElem?_eq_none h'] at hh
set_option maxHeartbeats 2000000 in
theorem ikeyOf_any {A B : Option Addr} {la ca lb cb : Nat} {cols : List Int} {vals : List Val} (w : World) (h : IsSl Kd.int w (· < w.heap.size) A la ca cols) (hv : IsSl Kd.val w (· < w.heap.size) B lb cb vals) (hl : la ≤ 1048576)
    (hin : ∀ c ∈ cols, 0 ≤ c ∧ c < (lb : Int)) : Calls Tryz.prog 58 #[.slice A la ca, .slice B lb cb] w (KeyRes cols vals w) := by
  have hb1 : lb ≤ maxLen := Nat.le_trans hv.2.1 hv.2.2.1
  have HX := Lib.hid h.1
  have HIN := Lib.hid hin
  obtain ⟨iv, hiv, hz0, hz1, hz2⟩ := info_parts info_val
  unfold maxLen at hb1
  clear hin
  go_enter Tryz.func58, Tryz.ntmps58
  go_wp2
  go_loopw [6, 7, 9, 13] (fun s kn _ i wr => ∃ (k p c : Nat) (rows : List Value), k ≤ la ∧ i = .int .i64 k ∧ s = .slice (some ⟨p, 0, none⟩) k c ∧ wr.ownsRow w.heap.size 50 3 s k rows ∧ Hid (Flat Kd.val wr (fun _ => False) rows (keyV (cols.take k) vals)) ∧ kn = .bool (knownV (cols.take k) vals) ∧ Grow w wr) (fun _ _ _ i _ => la - (intOf i).toNat)
  case atStart => exact ⟨0, _, 0, [], Nat.zero_le _, rfl, rfl, ⟨rfl, .inr ⟨_, 0, #[], rfl, Nat.le_refl _, new_block _ _, Nat.le_refl _, by simp [maxLen], rfl, rfl⟩⟩, Lib.hid rfl, rfl, (Grow.refl _).alloc _⟩
  case round =>
    obtain ⟨k, p, c, rows, hk, rfl, rfl, hown, hf, rfl, hG⟩ := hrel
    by_cases hlt : k < la
    · obtain ⟨b, off, x, rfl, hx, cx⟩ := int_at (h.grow hG) hlt
      obtain ⟨hx0, hx1⟩ := HIN.out x (mem_of_at hx.out)
      obtain ⟨j, rfl⟩ := Int.eq_ofNat_of_zero_le hx0
      have hj : j < lb := by omega
      obtain ⟨b2, off2, y, rfl, hy, _, hb2, zy, c0, c1, c2⟩ := val_at hv hj
      have hcw := hG.same
      have hP := own_baseK hown
      have HV := Lib.hid (show valAtC vals (j : Int) = y by simp [valAtC, hy.out])
      have HT := Lib.hid (take_snoc hx.out)
      have HFL := Lib.hid (show ∀ w7 : World, Flat Kd.val w7 (fun _ => False) (rows ++ [.int .i64 y.kind, .int .i64 y.n, .string y.s]) (keyV (cols.take (k + 1)) vals) from fun w7 => by
        rw [HT.out, keyV_snoc, HV.out]
        exact Flat.mono (fun _ h => h) (fun _ h => h.elim) (Flat.append (k := Kd.val) (w := wr) (S := fun _ => False) (cs := [.int .i64 y.kind, .int .i64 y.n, .string y.s]) (x := y) ⟨rfl, zy⟩ hf.out))
      have hKN := Lib.hid (show knownV (cols.take (k + 1)) vals = (knownV (cols.take k) vals && decide (y.kind ≠ 0)) by rw [HT.out, knownV_snoc, HV.out])
      have hgs := hG.size
      cases hkb : knownV (cols.take k) vals with
      | false =>
        have hkn := Lib.hid (show knownV (cols.take (k + 1)) vals = false by rw [hKN.out, hkb, Bool.false_and])
        clear hkb
        go_wp2_with (at_builtin; refine wpList_append_lies _ rfl _ _ 45 rfl w.heap.size 50 iv _ 3 32 Tryz.underlying45 hiv hz0 hz1 hz2 (by rfl) (by decide) _ k rows (by rfl) (own_growK hown ((Grow.refl wr).alloc _)) ⟨wr.heap.size, 0, none⟩ 1 1 [.int .i64 y.kind, .int .i64 y.n, .string y.s] (by rfl) (by rfl) (World.news_of_block (new_block _ _)) (fun x hx => by simp at hx; rcases hx with rfl | rfl | rfl <;> rfl) (by decide) (by unfold maxLen; omega) (by omega) (by simp; omega) _ rfl ?_; intro g cap w7 hown7 hgrow7 hat hlt7; have gW7 : Grow w w7 := (Below.grown (hG.alloc _) hgrow7 (by simp; omega) (fun q hq => by simp [Value.ownBlock] at hq; subst hq; exact hP)); have hc7 := gW7.same)
        go_roundw
        case rel => exact ⟨k + 1, g, cap, _, by omega, by go_num, rfl, hown7, Lib.hid (HFL.out w7), by rw [hkn.out], gW7⟩
        case measure => simp [intOf]; omega
      | true =>
        by_cases hyk : y.kind = 0
        · have hkn := Lib.hid (show knownV (cols.take (k + 1)) vals = false by rw [hKN.out, hkb, hyk]; rfl)
          have hykb : (y.kind != 0) = false := by simpa using hyk
          clear hkb hyk
          go_wp2_with (at_builtin; refine wpList_append_lies _ rfl _ _ 45 rfl w.heap.size 50 iv _ 3 32 Tryz.underlying45 hiv hz0 hz1 hz2 (by rfl) (by decide) _ k rows (by rfl) (own_growK hown ((Grow.refl wr).alloc _)) ⟨wr.heap.size, 0, none⟩ 1 1 [.int .i64 y.kind, .int .i64 y.n, .string y.s] (by rfl) (by rfl) (World.news_of_block (new_block _ _)) (fun x hx => by simp at hx; rcases hx with rfl | rfl | rfl <;> rfl) (by decide) (by unfold maxLen; omega) (by omega) (by simp; omega) _ rfl ?_; intro g cap w7 hown7 hgrow7 hat hlt7; have gW7 : Grow w w7 := (Below.grown (hG.alloc _) hgrow7 (by simp; omega) (fun q hq => by simp [Value.ownBlock] at hq; subst hq; exact hP)); have hc7 := gW7.same)
          go_roundw
          case rel => exact ⟨k + 1, g, cap, _, by omega, by go_num, rfl, hown7, Lib.hid (HFL.out w7), by rw [hkn.out], gW7⟩
          case measure => simp [intOf]; omega
        · have hkn := Lib.hid (show knownV (cols.take (k + 1)) vals = true by rw [hKN.out, hkb, decide_eq_true hyk]; rfl)
          have hykb : (y.kind != 0) = true := by simpa using hyk
          clear hkb hyk
          go_wp2_with (at_builtin; refine wpList_append_lies _ rfl _ _ 45 rfl w.heap.size 50 iv _ 3 32 Tryz.underlying45 hiv hz0 hz1 hz2 (by rfl) (by decide) _ k rows (by rfl) (own_growK hown ((Grow.refl wr).alloc _)) ⟨wr.heap.size, 0, none⟩ 1 1 [.int .i64 y.kind, .int .i64 y.n, .string y.s] (by rfl) (by rfl) (World.news_of_block (new_block _ _)) (fun x hx => by simp at hx; rcases hx with rfl | rfl | rfl <;> rfl) (by decide) (by unfold maxLen; omega) (by omega) (by simp; omega) _ rfl ?_; intro g cap w7 hown7 hgrow7 hat hlt7; have gW7 : Grow w w7 := (Below.grown (hG.alloc _) hgrow7 (by simp; omega) (fun q hq => by simp [Value.ownBlock] at hq; subst hq; exact hP)); have hc7 := gW7.same)
          go_roundw
          case rel => exact ⟨k + 1, g, cap, _, by omega, by go_num, rfl, hown7, Lib.hid (HFL.out w7), by rw [hkn.out], gW7⟩
          case measure => simp [intOf]; omega
    · obtain rfl : k = la := by omega
      have hf2 := hf.out
      have hkk := Lib.hid (show knownV (cols.take k) vals = knownV cols vals by rw [List.take_of_length_le (by rw [HX.out]; exact Nat.le_refl _)])
      rw [List.take_of_length_le (by rw [HX.out]; exact Nat.le_refl _)] at hf2
      have hres := Lib.hid (own_isSl (S' := Fresh w.heap.size wr) hown hf2 (by rw [keyV, List.length_map, HX.out]) (fun _ h => h.elim) (fun b hB hlt hfr => ⟨hB, hlt, hfr⟩))
      clear hf2
      go_wp2
      exact bodyPost_ret (v := .tuple #[.slice (some ⟨p, 0, none⟩) k c, .bool (knownV (cols.take k) vals)]) (by simp [results, Tryz.results58, go_sem]) rfl ⟨_, _, _, by rw [hkk.out], hres.out, hG⟩
set_option maxHeartbeats 2000000 in
theorem l4Key_any {A B : Option Addr} {la ca lb cb : Nat} {cols : List Int} {vals : List Val} (w : World) (h : IsSl Kd.int w (· < w.heap.size) A la ca cols) (hv : IsSl Kd.val w (· < w.heap.size) B lb cb vals) (hl : la ≤ 1048576)
    (hin : ∀ c ∈ cols, 0 ≤ c ∧ c < (lb : Int)) : Calls Tryz.prog 100 #[.slice A la ca, .slice B lb cb] w (KeyRes cols vals w) := by
  have hb1 : lb ≤ maxLen := Nat.le_trans hv.2.1 hv.2.2.1
  have HX := Lib.hid h.1
  have HIN := Lib.hid hin
  obtain ⟨iv, hiv, hz0, hz1, hz2⟩ := info_parts info_val
  unfold maxLen at hb1
  clear hin
  go_enter Tryz.func100, Tryz.ntmps100
  go_wp2
  go_loopw [6, 7, 8] (fun s kn i wr => ∃ (k p c : Nat) (rows : List Value), k ≤ la ∧ i = .int .i64 k ∧ s = .slice (some ⟨p, 0, none⟩) k c ∧ wr.ownsRow w.heap.size 50 3 s k rows ∧ Hid (Flat Kd.val wr (fun _ => False) rows (keyV (cols.take k) vals)) ∧ kn = .bool (knownV (cols.take k) vals) ∧ Grow w wr) (fun _ _ i _ => la - (intOf i).toNat)
  case atStart => exact ⟨0, _, 0, [], Nat.zero_le _, rfl, rfl, ⟨rfl, .inr ⟨_, 0, #[], rfl, Nat.le_refl _, new_block _ _, Nat.le_refl _, by simp [maxLen], rfl, rfl⟩⟩, Lib.hid rfl, rfl, (Grow.refl _).alloc _⟩
  case round =>
    obtain ⟨k, p, c, rows, hk, rfl, rfl, hown, hf, rfl, hG⟩ := hrel
    by_cases hlt : k < la
    · obtain ⟨b, off, x, rfl, hx, cx⟩ := int_at (h.grow hG) hlt
      obtain ⟨hx0, hx1⟩ := HIN.out x (mem_of_at hx.out)
      obtain ⟨j, rfl⟩ := Int.eq_ofNat_of_zero_le hx0
      have hj : j < lb := by omega
      obtain ⟨b2, off2, y, rfl, hy, _, hb2, zy, c0, c1, c2⟩ := val_at hv hj
      have hcw := hG.same
      have hP := own_baseK hown
      have hPl := own_ltK hown
      have HV := Lib.hid (show valAtC vals (j : Int) = y by simp [valAtC, hy.out])
      have HT := Lib.hid (take_snoc hx.out)
      have HFL := Lib.hid (show ∀ w7 : World, Flat Kd.val w7 (fun _ => False) (rows ++ [.int .i64 y.kind, .int .i64 y.n, .string y.s]) (keyV (cols.take (k + 1)) vals) from fun w7 => by
        rw [HT.out, keyV_snoc, HV.out]
        exact Flat.mono (fun _ h => h) (fun _ h => h.elim) (Flat.append (k := Kd.val) (w := wr) (S := fun _ => False) (cs := [.int .i64 y.kind, .int .i64 y.n, .string y.s]) (x := y) ⟨rfl, zy⟩ hf.out))
      have hKN := Lib.hid (show knownV (cols.take (k + 1)) vals = (knownV (cols.take k) vals && decide (y.kind ≠ 0)) by rw [HT.out, knownV_snoc, HV.out])
      have hgs := hG.size
      cases hkb : knownV (cols.take k) vals with
      | false =>
        have hkn := Lib.hid (show knownV (cols.take (k + 1)) vals = false by rw [hKN.out, hkb, Bool.false_and])
        clear hkb
        go_wp2_with (at_builtin; refine wpList_append_lies _ rfl _ _ 45 rfl w.heap.size 50 iv _ 3 32 Tryz.underlying45 hiv hz0 hz1 hz2 (by rfl) (by decide) _ k rows (by rfl) (own_growK hown (((Grow.refl wr).alloc _).alloc _)) ⟨wr.heap.size + 1, 0, none⟩ 1 1 [.int .i64 y.kind, .int .i64 y.n, .string y.s] (by rfl) (by rfl) (World.news_of_block (by have := new_block (wr.alloc (.cells #[.int .i64 y.kind, .int .i64 y.n, .string y.s] 50)) (.cells #[.int .i64 y.kind, .int .i64 y.n, .string y.s] 50); simpa using this)) (fun x hx => by simp at hx; rcases hx with rfl | rfl | rfl <;> rfl) (by decide) (by unfold maxLen; omega) (by omega) (by simp; omega) _ rfl ?_; intro g cap w7 hown7 hgrow7 hat hlt7; have gW7 : Grow w w7 := (Below.grown ((hG.alloc _).alloc _) hgrow7 (by simp; omega) (fun q hq => by simp [Value.ownBlock] at hq; subst hq; exact hP)); have hc7 := gW7.same; have hvb : ∀ o, w7.cell? ⟨wr.heap.size, o, none⟩ = #[Value.int .i64 y.kind, .int .i64 y.n, .string y.s][o]? := (fun o => (hgrow7.cell_far ⟨wr.heap.size, o, none⟩ (by simp; omega) (by simp [Value.ownBlock]; omega)).trans (by simp)))
        go_roundw
        case rel => exact ⟨k + 1, g, cap, _, by omega, by go_num, rfl, hown7, Lib.hid (HFL.out w7), by rw [hkn.out], gW7⟩
        case measure => simp [intOf]; omega
      | true =>
        by_cases hyk : y.kind = 0
        · have hkn := Lib.hid (show knownV (cols.take (k + 1)) vals = false by rw [hKN.out, hkb, hyk]; rfl)
          have hykb : (y.kind != 0) = false := by simpa using hyk
          clear hkb hyk
          go_wp2_with (at_builtin; refine wpList_append_lies _ rfl _ _ 45 rfl w.heap.size 50 iv _ 3 32 Tryz.underlying45 hiv hz0 hz1 hz2 (by rfl) (by decide) _ k rows (by rfl) (own_growK hown (((Grow.refl wr).alloc _).alloc _)) ⟨wr.heap.size + 1, 0, none⟩ 1 1 [.int .i64 y.kind, .int .i64 y.n, .string y.s] (by rfl) (by rfl) (World.news_of_block (by have := new_block (wr.alloc (.cells #[.int .i64 y.kind, .int .i64 y.n, .string y.s] 50)) (.cells #[.int .i64 y.kind, .int .i64 y.n, .string y.s] 50); simpa using this)) (fun x hx => by simp at hx; rcases hx with rfl | rfl | rfl <;> rfl) (by decide) (by unfold maxLen; omega) (by omega) (by simp; omega) _ rfl ?_; intro g cap w7 hown7 hgrow7 hat hlt7; have gW7 : Grow w w7 := (Below.grown ((hG.alloc _).alloc _) hgrow7 (by simp; omega) (fun q hq => by simp [Value.ownBlock] at hq; subst hq; exact hP)); have hc7 := gW7.same; have hvb : ∀ o, w7.cell? ⟨wr.heap.size, o, none⟩ = #[Value.int .i64 y.kind, .int .i64 y.n, .string y.s][o]? := (fun o => (hgrow7.cell_far ⟨wr.heap.size, o, none⟩ (by simp; omega) (by simp [Value.ownBlock]; omega)).trans (by simp)))
          go_roundw
          case rel => exact ⟨k + 1, g, cap, _, by omega, by go_num, rfl, hown7, Lib.hid (HFL.out w7), by rw [hkn.out], gW7⟩
          case measure => simp [intOf]; omega
        · have hkn := Lib.hid (show knownV (cols.take (k + 1)) vals = true by rw [hKN.out, hkb, decide_eq_true hyk]; rfl)
          have hykb : (y.kind != 0) = true := by simpa using hyk
          clear hkb hyk
          go_wp2_with (at_builtin; refine wpList_append_lies _ rfl _ _ 45 rfl w.heap.size 50 iv _ 3 32 Tryz.underlying45 hiv hz0 hz1 hz2 (by rfl) (by decide) _ k rows (by rfl) (own_growK hown (((Grow.refl wr).alloc _).alloc _)) ⟨wr.heap.size + 1, 0, none⟩ 1 1 [.int .i64 y.kind, .int .i64 y.n, .string y.s] (by rfl) (by rfl) (World.news_of_block (by have := new_block (wr.alloc (.cells #[.int .i64 y.kind, .int .i64 y.n, .string y.s] 50)) (.cells #[.int .i64 y.kind, .int .i64 y.n, .string y.s] 50); simpa using this)) (fun x hx => by simp at hx; rcases hx with rfl | rfl | rfl <;> rfl) (by decide) (by unfold maxLen; omega) (by omega) (by simp; omega) _ rfl ?_; intro g cap w7 hown7 hgrow7 hat hlt7; have gW7 : Grow w w7 := (Below.grown ((hG.alloc _).alloc _) hgrow7 (by simp; omega) (fun q hq => by simp [Value.ownBlock] at hq; subst hq; exact hP)); have hc7 := gW7.same; have hvb : ∀ o, w7.cell? ⟨wr.heap.size, o, none⟩ = #[Value.int .i64 y.kind, .int .i64 y.n, .string y.s][o]? := (fun o => (hgrow7.cell_far ⟨wr.heap.size, o, none⟩ (by simp; omega) (by simp [Value.ownBlock]; omega)).trans (by simp)))
          go_roundw
          case rel => exact ⟨k + 1, g, cap, _, by omega, by go_num, rfl, hown7, Lib.hid (HFL.out w7), by rw [hkn.out], gW7⟩
          case measure => simp [intOf]; omega
    · obtain rfl : k = la := by omega
      have hf2 := hf.out
      have hkk := Lib.hid (show knownV (cols.take k) vals = knownV cols vals by rw [List.take_of_length_le (by rw [HX.out]; exact Nat.le_refl _)])
      rw [List.take_of_length_le (by rw [HX.out]; exact Nat.le_refl _)] at hf2
      have hres := Lib.hid (own_isSl (S' := Fresh w.heap.size wr) hown hf2 (by rw [keyV, List.length_map, HX.out]) (fun _ h => h.elim) (fun b hB hlt hfr => ⟨hB, hlt, hfr⟩))
      clear hf2
      go_wp2
      exact bodyPost_ret (v := .tuple #[.slice (some ⟨p, 0, none⟩) k c, .bool (knownV (cols.take k) vals)]) (by simp [results, Tryz.results100, go_sem]) rfl ⟨_, _, _, by rw [hkk.out], hres.out, hG⟩
def outP (n : Int) (c : Int) : Bool := !inB c 0 (n - 1)
def keyOfB (cols : List Int) (vals : List Val) : Bool := okVals vals && !(cols.any (outP vals.length))
def kOf (cols : List Int) (vals : List Val) : List Val := if keyOfB cols vals then keyV cols vals else []
def kKn (cols : List Int) (vals : List Val) : Bool := keyOfB cols vals && knownV cols vals
def KeyOfRes (cols : List Int) (vals : List Val) (w : World) (e : Ending) (w' : World) : Prop := ∃ A len cap, e = .returned (.tuple #[.slice A len cap, .bool (kKn cols vals)]) ∧ IsSl Kd.val w' (Fresh w.heap.size w') A len cap (kOf cols vals) ∧ Grow w w'
theorem IsSl.nilK {α : Type} {k : Kd α} {w : World} {S : Nat → Prop} : IsSl k w S none 0 0 [] := ⟨rfl, Nat.le_refl _, Nat.zero_le _, fun h => absurd h (Nat.lt_irrefl _)⟩
theorem keyOf_no {cols : List Int} {vals : List Val} (h : keyOfB cols vals = false) {w w' : World} (hg : Grow w w') : KeyOfRes cols vals w (.returned (.tuple #[.slice none 0 0, .bool false])) w' :=
  ⟨none, 0, 0, by simp [kKn, h], by rw [kOf, h]; exact IsSl.nilK, hg⟩
theorem keyOf_yes {cols : List Int} {vals : List Val} (h : keyOfB cols vals = true) {w0 w : World} (hg : Grow w0 w) {e : Ending} {w' : World} (hr : KeyRes cols vals w e w') : KeyOfRes cols vals w0 e w' := by
  obtain ⟨A, l, c, he, hs, hg'⟩ := hr
  refine ⟨A, l, c, by rw [kKn, h, Bool.true_and]; exact he, by rw [kOf, if_pos h]; exact hs.mono (fun b hb => hb.low hg.size) (fun _ _ => rfl), hg.trans hg'⟩
theorem outP_none {cols : List Int} {n : Int} (h : cols.any (outP n) = false) : ∀ c ∈ cols, 0 ≤ c ∧ c < n := fun c hc => by
  have := List.any_eq_false.mp h c hc
  simp [outP, inB] at this
  omega
theorem enters_KeyOf1 : Enters Tryz.prog 56 := ⟨fun a w => by go_simp⟩
theorem keyOf1_any (c : Int) (b : Nat) {B : Option Addr} {lb cb : Nat} (w : World) (hl : lb ≤ maxLen) (hb : b < w.heap.size) (hc : w.cell? ⟨b, 0, none⟩ = some (.slice B lb cb)) :
    Calls Tryz.prog 56 #[.int .i64 c, .pointer (some ⟨b, 0, none⟩)] w (Ret w (.bool (outP lb c))) := by
  unfold maxLen at hl
  have n3 : IntKind.i64.wrap ((lb : Int) - 1) = (lb : Int) - 1 := IntWalk.i64_in _ (by omega)
  have hcur := Grow.refl w
  go_enter Tryz.func56, Tryz.ntmps56
  go_wp2_with (first | (go_at_call 57; (with_reducible refine (in_any _ _ _ _).mono ?_); rintro e w1 ⟨rfl, rfl⟩))
  go_ret
  exact ⟨rfl, (by repeat (with_reducible first | exact Grow.refl _ | assumption | refine Grow.drew ?_ | refine Grow.alloc ?_ _ | refine Grow.set ?_ (by first | exact Nat.le_refl _ | (simp; done) | (simp; omega) | omega) _ | exact And.left (by assumption) | refine Grow.trans ?_ (by assumption)))⟩
theorem iKeyOf_any {A B : Option Addr} {la ca lb cb : Nat} {cols : List Int} {vals : List Val} (w : World) (h : IsSl Kd.int w (· < w.heap.size) A la ca cols) (hv : IsSl Kd.val w (· < w.heap.size) B lb cb vals) (hl : la ≤ 1048576) :
    Calls Tryz.prog 23 #[.slice A la ca, .slice B lb cb] w (KeyOfRes cols vals w) := by
  have hb1 : lb ≤ maxLen := Nat.le_trans hv.2.1 hv.2.2.1
  have HB := Lib.hid hb1
  have HVL := Lib.hid hv.1
  cases ho : okVals vals with
  | false =>
    have hk := Lib.hid (show keyOfB cols vals = false by rw [keyOfB, ho]; rfl)
    go_enter Tryz.func23, Tryz.ntmps23
    go_wp2_with fail
    generalize hW : World.alloc w _ = W
    obtain ⟨hg, hs', k1⟩ := boxed1 hW
    clear hW
    have hcur := Grow.refl W
    have hc := hcur.same
    go_wp2_with (first | (go_at_call 54; (with_reducible refine (areVals_any _ (hv.grow (hg.trans hcur))).mono ?_); rintro e w1 ⟨rfl, hb⟩; replace hcur := hcur.trans hb; replace hc := hcur.same; clear hb))
    exact bodyPost_ret (v := .tuple #[.slice none 0 0, .bool false]) (by simp [results, Tryz.results23, go_sem]) rfl (keyOf_no hk.out (hg.trans hcur))
  | true =>
    cases hc : cols.any (outP lb) with
    | true =>
      have hk := Lib.hid (show keyOfB cols vals = false by rw [keyOfB, HVL.out, hc, Bool.not_true, Bool.and_false])
      have HC := Lib.hid hc
      clear hc
      go_enter Tryz.func23, Tryz.ntmps23
      go_wp2_with fail
      generalize hW : World.alloc w _ = W
      obtain ⟨hg, hs', k1⟩ := boxed1 hW
      clear hW
      have hcur := Grow.refl W
      have hc := hcur.same
      go_wp2_with (first | (go_at_call 54; (with_reducible refine (areVals_any _ (hv.grow (hg.trans hcur))).mono ?_); rintro e w1 ⟨rfl, hb⟩; replace hcur := hcur.trans hb; replace hc := hcur.same; clear hb) | (go_at_call 55; refine (containsFunc_int _ enters_KeyOf1 _ _ (outP lb) _ (h.grow (hg.trans hcur)) (fun c w' hx hw => by simpa using keyOf1_any c _ w' HB.out (Nat.lt_of_lt_of_le hs' (hcur.trans hw).size) (((hcur.trans hw).same _ _ hs').trans (k1 0)))).mono ?_; rintro e w1 ⟨he, hb⟩; rw [HC.out] at he; subst he; replace hcur := hcur.trans hb; replace hc := hcur.same; clear hb))
      exact bodyPost_ret (v := .tuple #[.slice none 0 0, .bool false]) (by simp [results, Tryz.results23, go_sem]) rfl (keyOf_no hk.out (hg.trans hcur))
    | false =>
      have hk := Lib.hid (show keyOfB cols vals = true by rw [keyOfB, HVL.out, hc, ho]; rfl)
      have HC := Lib.hid hc
      have HI := Lib.hid (outP_none hc)
      clear hc
      go_enter Tryz.func23, Tryz.ntmps23
      go_wp2_with fail
      generalize hW : World.alloc w _ = W
      obtain ⟨hg, hs', k1⟩ := boxed1 hW
      clear hW
      have hcur := Grow.refl W
      have hc := hcur.same
      go_wp2_with (first | (go_at_call 54; (with_reducible refine (areVals_any _ (hv.grow (hg.trans hcur))).mono ?_); rintro e w1 ⟨rfl, hb⟩; replace hcur := hcur.trans hb; replace hc := hcur.same; clear hb) | (go_at_call 55; refine (containsFunc_int _ enters_KeyOf1 _ _ (outP lb) _ (h.grow (hg.trans hcur)) (fun c w' hx hw => by simpa using keyOf1_any c _ w' HB.out (Nat.lt_of_lt_of_le hs' (hcur.trans hw).size) (((hcur.trans hw).same _ _ hs').trans (k1 0)))).mono ?_; rintro e w1 ⟨he, hb⟩; rw [HC.out] at he; subst he; replace hcur := hcur.trans hb; replace hc := hcur.same; clear hb))
      refine (ikeyOf_any _ (h.grow (hg.trans hcur)) (hv.grow (hg.trans hcur)) hl HI.out).mono ?_
      rintro e w2 hr
      have hy := Lib.hid (keyOf_yes hk.out (hg.trans hcur) hr)
      obtain ⟨A2, l2, c2, rfl, -, -⟩ := hr
      go_wp2
      exact bodyPost_ret (v := .tuple #[.slice A2 l2 c2, .bool (knownV cols vals)]) (by simp [results, Tryz.results23, go_sem]) rfl hy.out
end Go.Proofs.YtjeilgogjoidjaaGreat
