import Derived.Test.YtdgmoplfiodahaaGreatDoorTextE
import Derived.Test.YtdgmoplfiodahaaGreatDoorTextW
/-! Texts of expressions, walked. -/
namespace Go.Proofs.YtdgmoplfiodahaaGreatDoor
open Go.RowKit
set_option linter.unusedVariables false
set_option linter.unusedSimpArgs false
theorem joinL_snoc (x : List UInt8) : ∀ {ws : List (List UInt8)}, ws ≠ [] → joinL (ws ++ [x]) = joinL ws ++ 32 :: x
  | [], h => absurd rfl h
  | [y], _ => by
    rw [List.singleton_append, joinL_cons]
    have h1 : joinL [x] = x := Lib.join_one x [32]
    have h2 : joinL [y] = y := Lib.join_one y [32]
    rw [h1, h2]
  | y :: z :: r, _ => by
    rw [List.cons_append, List.cons_append, joinL_cons, joinL_cons]
    have := joinL_snoc x (ws := z :: r) (by simp)
    rw [List.cons_append] at this
    rw [this]; simp
theorem joinL_len : ∀ {ws : List (List UInt8)}, (∀ w ∈ ws, w.length ≤ 40) → (joinL ws).length ≤ 41 * ws.length
  | [], _ => by simp [joinL, Lib.join]
  | [x], h => by
    have h1 : joinL [x] = x := Lib.join_one x [32]
    rw [h1]
    have := h x (by simp)
    simp; omega
  | x :: y :: r, h => by
    rw [joinL_cons]
    have h1 := h x (by simp)
    have h2 := joinL_len (ws := y :: r) (fun w hw => h w (by simp at hw ⊢; exact .inr hw))
    simp only [List.length_append, List.length_cons] at h2 ⊢
    omega
theorem itoa_len {n : Int} (h0 : -1000000000 ≤ n) (h1 : n ≤ 1000000000) : (Lib.itoa n).length ≤ 11 := by
  by_cases hneg : n < 0
  · obtain ⟨u, rfl⟩ : ∃ u : Nat, n = -(u : Int) := ⟨n.natAbs, by omega⟩
    rw [Lib.itoa_neg u (by omega)]
    have := dec_len u (by omega)
    simp only [List.length_cons]; omega
  · obtain ⟨u, rfl⟩ : ∃ u : Nat, n = u := ⟨n.toNat, by omega⟩
    rw [Lib.itoa_nonneg]
    have := dec_len u (by omega)
    omega
theorem text_len {v : Val} (h : okB v = true) : (textL v).length ≤ 38 := by
  rcases ok_cases h with rfl | ⟨n, h0, h1, rfl⟩ | ⟨s, hs, rfl⟩
  · rw [text_zero]; decide
  · rw [text_int h0 h1]; have := itoa_len h0 h1; omega
  · rw [text_str hs]
    have h2 := body_len s.data.toList
    have h3 : s.data.toList.length = s.size := rfl
    simp only [List.length_cons, List.length_append, List.length_nil]
    omega
theorem word_len {t : Tok} (h : isTokB t 16 = true) : (wordL t).length ≤ 40 := by
  rcases tok_cases h with ⟨n, n0, n1, rfl⟩ | ⟨v, hv, rfl⟩ | ⟨k, k0, k1, rfl⟩
  · show (35 :: Lib.itoa n).length ≤ 40
    have := itoa_len (n := n) (by omega) (by omega)
    simp only [List.length_cons]; omega
  · show (textL v).length ≤ 40
    have := text_len hv; omega
  · have : k = 3 ∨ k = 4 ∨ k = 5 ∨ k = 6 ∨ k = 7 ∨ k = 8 ∨ k = 9 ∨ k = 10 := by omega
    rcases this with rfl | rfl | rfl | rfl | rfl | rfl | rfl | rfl <;> decide +kernel
theorem hash_app (L : List UInt8) : ByteArray.mk #[35] ++ strOf L = strOf (35 :: L) := strOf_app [35] L
set_option maxHeartbeats 2000000 in
set_option maxRecDepth 20000 in
theorem l2Word_any (t : Tok) (w : World) (ht : isTokB t 16 = true) : Calls Tryz.prog 29 #[.agg #[.int .i64 t.kind, .int .i64 t.col, .int .i64 t.v.kind, .int .i64 t.v.n, .string t.v.s]] w (Ret w (.string (strOf (wordL t)))) := by
  rcases tok_cases ht with ⟨n, n0, n1, rfl⟩ | ⟨v, hv, rfl⟩ | ⟨k, k0, k1, rfl⟩
  · have HD := fun w => l1Dec_any n w (by omega) (by omega)
    have hl := itoa_len (n := n) (by omega) (by omega)
    obtain ⟨L, hL⟩ : ∃ L, Lib.itoa n = L := ⟨_, rfl⟩
    have HW : Hid (wordL ⟨1, n, zeroV⟩ = 35 :: L) := Lib.hid (by rw [← hL]; rfl)
    rw [hL] at HD hl
    have hz : ∀ l, (strOf l).size = l.length := strOf_size
    have c1 : L.length + 1 ≤ 9223372036854775807 := fits (by omega)
    have c2 : 1 + L.length ≤ 9223372036854775807 := fits (by omega)
    rw [HW.out]
    clear hL hl n0 n1 ht
    go_enter Tryz.func29, Tryz.ntmps29
    go_wp2_with fail
    generalize hW : World.alloc w _ = W
    obtain ⟨gW, sW, kW⟩ := boxed1 hW
    clear hW
    refine (HD _).mono ?_
    rintro e w1 ⟨rfl, g1⟩
    go_wp2
    go_ret
    exact ⟨congrArg (fun x => Ending.returned (Value.string x)) (hash_app L), gW.trans g1⟩
  · have HW : Hid (wordL ⟨2, 0, v⟩ = textL v) := Lib.hid rfl
    rw [HW.out]
    clear ht
    go_enter Tryz.func29, Tryz.ntmps29
    go_wp2_with fail
    generalize hW : World.alloc w _ = W
    obtain ⟨gW, sW, kW⟩ := boxed1 hW
    clear hW
    refine (sValText_any v _).mono ?_
    rintro e w1 ⟨rfl, g1⟩
    go_wp2
    go_ret
    exact ⟨rfl, gW.trans g1⟩
  · have hk : k = 3 ∨ k = 4 ∨ k = 5 ∨ k = 6 ∨ k = 7 ∨ k = 8 ∨ k = 9 ∨ k = 10 := by omega
    rcases hk with rfl | rfl | rfl | rfl | rfl | rfl | rfl | rfl
    all_goals
      clear ht k0 k1
      dsimp only [opTok, zeroV]
      go_enter Tryz.func29, Tryz.ntmps29
      go_wp2
      go_ret
      exact ⟨rfl, ((Grow.refl _).alloc _).alloc _⟩
@[go_sem high] theorem index8_0 {a b c d e f g h : Value} (w : World) : (Instr.index 79 (.agg #[a, b, c, d, e, f, g, h]) (.int .i64 0)).run Tryz.prog w = .ok a w := by kernel_rfl
@[go_sem high] theorem index8_1 {a b c d e f g h : Value} (w : World) : (Instr.index 79 (.agg #[a, b, c, d, e, f, g, h]) (.int .i64 1)).run Tryz.prog w = .ok b w := by kernel_rfl
@[go_sem high] theorem index8_2 {a b c d e f g h : Value} (w : World) : (Instr.index 79 (.agg #[a, b, c, d, e, f, g, h]) (.int .i64 2)).run Tryz.prog w = .ok c w := by kernel_rfl
@[go_sem high] theorem index8_3 {a b c d e f g h : Value} (w : World) : (Instr.index 79 (.agg #[a, b, c, d, e, f, g, h]) (.int .i64 3)).run Tryz.prog w = .ok d w := by kernel_rfl
@[go_sem high] theorem index8_4 {a b c d e f g h : Value} (w : World) : (Instr.index 79 (.agg #[a, b, c, d, e, f, g, h]) (.int .i64 4)).run Tryz.prog w = .ok e w := by kernel_rfl
@[go_sem high] theorem index8_5 {a b c d e f g h : Value} (w : World) : (Instr.index 79 (.agg #[a, b, c, d, e, f, g, h]) (.int .i64 5)).run Tryz.prog w = .ok f w := by kernel_rfl
@[go_sem high] theorem index8_6 {a b c d e f g h : Value} (w : World) : (Instr.index 79 (.agg #[a, b, c, d, e, f, g, h]) (.int .i64 6)).run Tryz.prog w = .ok g w := by kernel_rfl
@[go_sem high] theorem index8_7 {a b c d e f g h : Value} (w : World) : (Instr.index 79 (.agg #[a, b, c, d, e, f, g, h]) (.int .i64 7)).run Tryz.prog w = .ok h w := by kernel_rfl
set_option maxHeartbeats 2000000 in
set_option maxRecDepth 20000 in
theorem wordOf_any (t : Tok) (w : World) (ht : isTokB t 16 = true) (hp : Pow10 w) : Calls Tryz.prog 26 #[.agg #[.int .i64 t.kind, .int .i64 t.col, .int .i64 t.v.kind, .int .i64 t.v.n, .string t.v.s]] w (Ret w (.string (strOf (wordL t)))) := by
  have HP := Lib.hid hp
  clear hp
  rcases tok_cases ht with ⟨n, n0, n1, rfl⟩ | ⟨v, hv, rfl⟩ | ⟨k, k0, k1, rfl⟩
  · have HD := fun w h => Tryz.strconv_FormatInt_10 n (by omega) (by omega) w h
    have hl := itoa_len (n := n) (by omega) (by omega)
    obtain ⟨L, hL⟩ : ∃ L, Lib.itoa n = L := ⟨_, rfl⟩
    have HW : Hid (wordL ⟨1, n, zeroV⟩ = 35 :: L) := Lib.hid (by rw [← hL]; rfl)
    have hz : ∀ l, (strOf l).size = l.length := strOf_size
    have c1 : L.length + 1 ≤ 9223372036854775807 := fits (by rw [← hL]; omega)
    have c2 : 1 + L.length ≤ 9223372036854775807 := fits (by rw [← hL]; omega)
    rw [HW.out]
    clear hl n0 n1 ht
    go_enter Tryz.func26, Tryz.ntmps26
    go_wp2_with fail
    generalize hW : World.alloc w _ = W
    obtain ⟨gW, sW, kW⟩ := boxed1 hW
    clear hW
    refine (HD W (HP.out.grow gW)).mono ?_
    rintro e w1 ⟨rfl, kk, os, rfl⟩
    have e1 : (⟨(Lib.itoa n).toArray⟩ : ByteArray) = strOf L := by rw [hL]; rfl
    rw [e1]
    clear hL e1 HD
    have g1 := grow_lib W kk os
    go_wp2
    go_ret
    exact ⟨congrArg (fun x => Ending.returned (Value.string x)) (hash_app L), gW.trans g1⟩
  · have HW : Hid (wordL ⟨2, 0, v⟩ = textL v) := Lib.hid rfl
    rw [HW.out]
    clear ht
    go_enter Tryz.func26, Tryz.ntmps26
    go_wp2_with fail
    generalize hW : World.alloc w _ = W
    obtain ⟨gW, sW, kW⟩ := boxed1 hW
    clear hW
    refine (iValText_any v _ (HP.out.grow gW)).mono ?_
    rintro e w1 ⟨rfl, g1⟩
    go_wp2
    go_ret
    exact ⟨rfl, gW.trans g1⟩
  · have hk : k = 3 ∨ k = 4 ∨ k = 5 ∨ k = 6 ∨ k = 7 ∨ k = 8 ∨ k = 9 ∨ k = 10 := by omega
    rcases hk with rfl | rfl | rfl | rfl | rfl | rfl | rfl | rfl
    all_goals
      clear ht k0 k1
      dsimp only [opTok, zeroV]
      go_enter Tryz.func26, Tryz.ntmps26
      go_wp2
      go_ret
      exact ⟨rfl, (Grow.refl _).alloc _⟩
end Go.Proofs.YtdgmoplfiodahaaGreatDoor
