import Derived.Test.YtdgmoplfiodahaaGreatDoorTextD
import Derived.Test.YtdgmoplfiodahaaGreatDoorTextG
import Derived.Test.YtdgmoplfiodahaaGreatDoorDraw3
/-! What is drawn of texts of expressions; whether two expressions are the same. -/
namespace Go.Proofs.YtdgmoplfiodahaaGreatDoor
open Go.RowKit
set_option linter.unusedVariables false
set_option linter.unusedSimpArgs false
theorem textE_len (e : List Tok) : (textE e).length ≤ 984 := by
  unfold textE
  split
  · rename_i h
    obtain ⟨_, h24, ht⟩ := expr_parts h
    have := joinL_len (ws := e.map wordL) (fun w hw => by
      obtain ⟨t, hm, rfl⟩ := List.mem_map.mp hw
      exact word_len (ht t hm))
    rw [List.length_map] at this
    omega
  · exact Nat.zero_le _
theorem sameToks_any {A B : Option Addr} {la ca lb cb : Nat} {xs : List Tok} (w : World) (h : IsSl Kd.tok w (· < w.heap.size) A la ca xs) (h' : IsSl Kd.tok w (· < w.heap.size) B lb cb xs) :
    Calls Tryz.prog 14 #[.slice A la ca, .slice B lb cb] w (Ret w (.bool true)) := by
  have hlen : la ≤ maxLen := Nat.le_trans h.2.1 h.2.2.1
  unfold maxLen at hlen
  obtain rfl : la = lb := h.1.symm.trans h'.1
  go_enter Tryz.func14, Tryz.ntmps14
  go_wp2
  go_loopw [5] (fun i wr => ∃ k : Nat, k ≤ la ∧ i = .int .i64 k ∧ Grow w wr) (fun i _ => la - (intOf i).toNat)
  case atStart => exact ⟨0, Nat.zero_le _, rfl, Grow.refl _⟩
  case round =>
    obtain ⟨k, hk, rfl, hg⟩ := hrel
    by_cases hlt : k < la
    · obtain ⟨b, off, x, rfl, hx, _, hb, zv, c0, c1, c2, c3, c4, hrd⟩ := tok_at (h.grow hg) hlt
      obtain ⟨b', off', y, rfl, hy, _, hb', zv', d0, d1, d2, d3, d4, hrd'⟩ := tok_at (h'.grow hg) hlt
      obtain rfl : x = y := Option.some.inj (hx.out.symm.trans hy.out)
      have i0 : (0 : Int) ≤ (k : Int) := Int.natCast_nonneg k
      have i1 : (k : Int) < (la : Int) := Int.ofNat_lt.mpr hlt
      clear hx hy hrd hrd'
      go_wp2
      go_region_held3 (fun w' => Grow wr w' ∧ Same wr w') (exact Grow.both (by repeat (with_reducible first | exact Grow.refl _ | assumption | refine Grow.drew ?_ | refine Grow.alloc ?_ _ | refine Grow.set ?_ (by first | exact Nat.le_refl _ | (simp; done) | (simp; omega) | omega) _ | exact And.left (by assumption) | refine Grow.trans ?_ (by assumption)))) (skip)
      go_wp2
      go_roundw
      case rel => exact ⟨k + 1, by omega, by go_num, hg.drew⟩
      case measure => simp [intOf]; omega
    · go_wp2
      go_ret
      exact ⟨rfl, hg⟩
theorem drawReadExpr_any {A : Option Addr} {len cap : Nat} {xs : List Int} (w : World) (h : IsSl Kd.byte w (· < w.heap.size) A len cap xs) :
    Calls Tryz.prog 15 #[.slice A len cap] w fun e w' => ∃ t : ByteArray, e = .returned (.string t) ∧ t.size ≤ 3000 ∧ Grow w w' := by
  go_enter Tryz.func15, Tryz.ntmps15
  go_wp2_with fail
  refine (l1Open_any w h).mono ?_
  rintro e w1 ⟨g, rfl, hg, hG, hR⟩
  have hgl := hR.lt
  go_wp2_with fail
  refine (expr_any g 3 3 rfl _ hR (by decide)).mono ?_
  rintro e w2 ⟨A2, n2, c2, xs2, rfl, own2, hx2, hG2, hR2⟩
  go_wp2_with fail
  refine (sExprText_any _ (own2.isSl.mono (fun b hb => hb.2.1) (fun b hb => rfl))).mono ?_
  rintro e w3 ⟨rfl, g3⟩
  have hR3 := hR2.of_grow g3
  have HL : Hid ((strOf (textE xs2)).size ≤ 1000) := Lib.hid (by rw [strOf_size]; exact Nat.le_trans (textE_len xs2) (by decide))
  obtain ⟨T, hT⟩ : ∃ T, strOf (textE xs2) = T := ⟨_, rfl⟩
  rw [hT] at HL ⊢
  clear hT hx2 own2
  have hGG := hG2.trans (GrowX.of g3)
  go_wp2_with fail
  refine (once_any g 2 _ hR3 (by decide) (by decide)).mono ?_
  rintro e w4 ⟨y, rfl, hG4, hR4⟩
  cases y with
  | true =>
    go_wp2
    go_ret
    exact ⟨T, rfl, by have := HL.out; omega, (hGG.trans hG4).grow hG hg⟩
  | false =>
    go_wp2_with fail
    refine (hurt_any g T _ hR4 HL.out).mono ?_
    rintro e w5 ⟨t, rfl, ht, hG5, hR5⟩
    go_wp2
    go_ret
    exact ⟨t, rfl, ht, ((hGG.trans hG4).trans hG5).grow hG hg⟩
end Go.Proofs.YtdgmoplfiodahaaGreatDoor
