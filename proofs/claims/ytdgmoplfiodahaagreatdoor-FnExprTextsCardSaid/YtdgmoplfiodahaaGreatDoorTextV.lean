import Derived.Test.YtdgmoplfiodahaaGreatDoorTextR
/-! Reading texts, walked. -/
namespace Go.Proofs.YtdgmoplfiodahaaGreatDoor
open Go.RowKit
set_option linter.unusedVariables false
set_option linter.unusedSimpArgs false
def natL (l : List UInt8) : List Int := l.map (fun b => (b.toNat : Int))
theorem natL_app (l : List UInt8) (c : UInt8) : natL (l ++ [c]) = natL l ++ [(c.toNat : Int)] := by simp [natL]
theorem plain_byte : Plain Kd.byte := fun _ _ _ _ _ _ h => h
theorem ones_byte : Ones Kd.byte := fun w S cs a h u hu => by
  obtain ⟨rfl, _⟩ := h
  simp at hu; subst hu; rfl
theorem info_byteE : (Tryz.prog.info? 5).map (fun i => (i.zero, i.size, i.bytes)) = some (some (.int .u8 0), 1, 1) := by kernel_rfl
theorem elem_byte : ElemOk Tryz.prog 28 5 1 1 := elemOk_of Tryz.underlying28 info_byteE rfl (by decide)
theorem byte_rd (w : World) (S : Nat → Prop) (c : UInt8) : Kd.byte.rd w S [.int .u8 (c.toNat : Int)] (c.toNat : Int) := ⟨rfl, by omega, by have := c.toNat_lt; omega⟩
theorem conv_str {w : World} {S : Nat → Prop} {A : Option Addr} {n c : Nat} {l : List UInt8} (h : IsSl Kd.byte w S A n c (natL l)) : (convert 28 9 (.slice A n c)).run Tryz.prog w = .ok (.string (strOf l)) w := by
  have hn : l.length = n := by have := h.1; simpa [natL] using this
  subst hn
  rcases Nat.eq_zero_or_pos l.length with h0 | h0
  · obtain rfl : l = [] := List.eq_nil_of_length_eq_zero h0
    cases A with
    | none => exact run_convert_bytes_nil w _ _ Tryz.underlying28 Tryz.underlying5 _ _ _ Tryz.underlying9
    | some a => exact run_convert_bytes_back w _ _ _ a c [] Tryz.underlying28 Tryz.underlying5 Tryz.underlying9 (fun j hj => absurd hj (Nat.not_lt_zero _))
  · obtain ⟨b, off, rfl, _, hx⟩ := h.2.2.2 h0
    refine run_convert_bytes_back w _ _ _ ⟨b, off, none⟩ c l Tryz.underlying28 Tryz.underlying5 Tryz.underlying9 (fun j hj => ?_)
    have hj' : j < (natL l).length := by simpa [natL] using hj
    obtain ⟨cs, hc, hr⟩ := hx j hj'
    have h1 := hc 0 (by decide)
    obtain ⟨rfl, _, _⟩ := hr
    have ha : (⟨b, off, none⟩ : Addr).add j = ⟨b, off + j, none⟩ := by unfold Addr.add; split <;> simp_all
    rw [ha]
    have : (natL l)[j] = (l[j].toNat : Int) := by simp [natL]
    rw [this] at h1
    simpa [Kd.byte] using h1
theorem iRead_else {c : UInt8} {t : List UInt8} (ht : t ≠ []) (h : c ≠ 37 ∨ t.length < 2) : iRead (c :: t) = c :: iRead t := by
  match t, ht with
  | [a], _ => rfl
  | [a, b], _ =>
    rcases h with h | h
    · simp [iRead, h]
    · simp at h
  | a :: b :: d :: r, _ =>
    rcases h with h | h
    · rw [iRead]; exact if_neg h
    · simp at h; omega
theorem iRead_esc (a b : UInt8) (r : List UInt8) : iRead (37 :: a :: b :: r) = UInt8.ofNat (iHex a * 16 + iHex b) :: iRead r := by rw [iRead, if_pos rfl]
theorem drop_at {s : ByteArray} {k : Nat} (h : k < s.size) : s.data.toList.drop k = s[k]'h :: s.data.toList.drop (k + 1) := by
  have h2 : k < s.data.toList.length := h
  rw [List.drop_eq_getElem_cons h2]; rfl
theorem indexB_max (a : UInt8) : max 0 (Lib.indexByte hexDigs a) = (iHex a : Int) := by unfold iHex; omega
theorem iHex_lt (a : UInt8) : iHex a < 16 := by
  have : ∀ n : Fin 256, iHex (UInt8.ofNat n.val) < 16 := by decide +kernel
  have h := this ⟨a.toNat, a.toNat_lt⟩
  simpa using h
theorem esc_facts {qa qb : Nat} {d : UInt8} (ha : qa < 16) (hb : qb < 16) (hd : d.toNat = qa * 16 + qb) : IntKind.i64.wrap ((qa : Int) * 16) = (qa : Int) * 16 ∧ IntKind.i64.wrap ((qa : Int) * 16 + (qb : Int)) = (d.toNat : Int) ∧ IntKind.u8.wrap (d.toNat : Int) = (d.toNat : Int) := by
  generalize d.toNat = n at hd ⊢
  exact ⟨IntWalk.i64_in _ (by omega), by rw [IntWalk.i64_in _ (by omega)]; omega, IntWalk.u8_in _ (by omega)⟩
theorem ix_facts {k : Nat} (h : k < 2000000) : wrap64 ((k : Int) + 2) = (k : Int) + 2 ∧ wrap64 ((k : Int) + 2 + 1) = (k : Int) + 2 + 1 ∧ IntKind.i64.wrap ((k : Int) + 1) = (k : Int) + 1 ∧ IntKind.i64.wrap ((k : Int) + 2) = (k : Int) + 2 ∧ ((k : Int) + 2).toNat = k + 2 := by
  refine ⟨?_, ?_, IntWalk.i64_in _ (by omega), IntWalk.i64_in _ (by omega), by omega⟩ <;> (unfold wrap64; omega)
theorem big_len : 2000000 ≤ maxLen := by unfold maxLen; decide
theorem big_len2 : 2000000 ≤ 140737488355328 := by decide
theorem ib_any (a : UInt8) (w : World) : Calls Tryz.prog 86 #[.string { data := #[48, 49, 50, 51, 52, 53, 54, 55, 56, 57, 97, 98, 99, 100, 101, 102] }, .int .u8 (a.toNat : Int)] w (Just w (.int .i64 (Lib.indexByte hexDigs a))) := by
  refine (Tryz.strings_IndexByte _ _ w).mono ?_
  rintro e w' ⟨rfl, rfl⟩
  have e1 : ((a.toNat : Int).toNat).toUInt8 = a := by simp
  rw [e1]
  exact ⟨rfl, rfl⟩
set_option maxHeartbeats 2000000 in
theorem readText_any (s : ByteArray) (w : World) (hs : s.size ≤ 1048576) : Calls Tryz.prog 65 #[.string s] w (Ret w (.string (strOf (iRead (s.data.toList.drop 1))))) := by
  have HS := Lib.hid hs
  go_enter Tryz.func65, Tryz.ntmps65
  go_wp2_with fail
  go_loopw [3, 4] (fun sv iv wr => ∃ (k n c : Nat) (Q : Option Addr) (out : List UInt8), 1 ≤ k ∧ iv = .int .i64 k ∧ sv = .slice Q n c ∧ n ≤ k ∧ k ≤ s.size + 1 ∧ OwnF Kd.byte 5 w wr Q n c (natL out) ∧ Hid (out ++ iRead (s.data.toList.drop k) = iRead (s.data.toList.drop 1))) (fun _ iv _ => s.size + 3 - (intOf iv).toNat)
  case atStart => exact ⟨1, 0, 0, _, [], Nat.le_refl _, rfl, rfl, by omega, by omega, OwnF.made (Grow.refl w), Lib.hid rfl⟩
  case round =>
    obtain ⟨k, n, cp, Q, out, hk1, rfl, rfl, hnk, hks, own, HO⟩ := hrel
    have hG := own.grows
    have ek : wrap64 ((k : Int) + 1) = (k : Int) + 1 := by unfold wrap64; omega
    by_cases hlt : k + 1 < s.size
    · have hlt0 : k < s.size := by omega
      have i0 : (0 : Int) ≤ (k : Int) := Int.natCast_nonneg k
      have i1 : (k : Int) < (s.size : Int) := Int.ofNat_lt.mpr hlt0
      have i2 : (k : Int) + 1 < (s.size : Int) := by omega
      have i3 : (0 : Int) ≤ (k : Int) + 1 := by omega
      obtain ⟨c, hc⟩ : ∃ c, s[k]'hlt0 = c := ⟨_, rfl⟩
      have HD : Hid (s.data.toList.drop k = c :: s.data.toList.drop (k + 1)) := Lib.hid (by rw [drop_at hlt0, hc])
      have HL : Hid ((s.data.toList.drop (k + 1)).length = s.size - (k + 1)) := Lib.hid (by rw [List.length_drop, size_list])
      have HC3 : Hid (c = 37 ↔ ((c.toNat : Int) == 37) = true) := Lib.hid (by
        have := u8_beq c 37
        rw [← beq_iff_eq, this]; rfl)
      cases h37 : ((c.toNat : Int) == 37) with
      | false =>
        have HN : Hid ((out ++ [c]) ++ iRead (s.data.toList.drop (k + 1)) = iRead (s.data.toList.drop 1)) := Lib.hid (by
          rw [← HO.out, HD.out, iRead_else (List.ne_nil_of_length_pos (by rw [HL.out]; omega)) (.inl (fun h => by have := HC3.out.mp h; rw [h37] at this; cases this))]
          simp)
        go_wp2_with (at_builtin; refine wpList_app plain_byte ones_byte elem_byte rfl (.tmp 43) (.tmp 45) (by rfl) (by rfl) (own.grow ((Grow.refl _).alloc _)) (by rfl) (isSl_one (by decide) (new_block _ _) (byte_rd _ _ c)) (q := n + 1) rfl (by unfold maxLen; omega) (by omega) (fun A3 c3 w3 ap3 => ?_))
        go_roundw
        case rel => exact ⟨k + 1, n + 1, c3, A3, out ++ [c], by omega, by go_num, rfl, by omega, by omega, by rw [natL_app]; exact ap3.own.low (Grow.refl _), HN⟩
        case measure => simp [intOf]; omega
      | true =>
        by_cases h2 : k + 2 < s.size
        · have HJ : Hid (n + 1 ≤ k + 3 ∧ k + 3 ≤ s.size + 1 ∧ n + 1 ≤ 2000000) := Lib.hid ⟨by omega, by omega, by omega⟩
          have HK2 : Hid (k < 2000000) := Lib.hid (by omega)
          have HM : Hid (s.size + 3 - (k + 3) < s.size + 3 - k) := Lib.hid (by omega)
          have i4 : (k : Int) + 2 < (s.size : Int) := by omega
          have i5 : (0 : Int) ≤ (k : Int) + 2 := by omega
          have hlt1 : k + 1 < s.size := by omega
          obtain ⟨a, ha⟩ : ∃ a, s[k + 1]'hlt1 = a := ⟨_, rfl⟩
          obtain ⟨b, hb⟩ : ∃ b, s[k + 2]'h2 = b := ⟨_, rfl⟩
          have HD3 : Hid (s.data.toList.drop k = 37 :: a :: b :: s.data.toList.drop (k + 3)) := Lib.hid (by
            rw [HD.out, HC3.out.mpr h37, drop_at hlt1, drop_at h2, ha, hb])
          have qa1 := iHex_lt a
          have qb1 := iHex_lt b
          have mA := indexB_max a
          have mB := indexB_max b
          obtain ⟨ya, hya⟩ : ∃ y, Lib.indexByte hexDigs a = y := ⟨_, rfl⟩
          obtain ⟨yb, hyb⟩ : ∃ y, Lib.indexByte hexDigs b = y := ⟨_, rfl⟩
          have hIA := ib_any a
          have hIB := ib_any b
          rw [hya] at mA hIA
          rw [hyb] at mB hIB
          obtain ⟨qa, hqa⟩ : ∃ q, iHex a = q := ⟨_, rfl⟩
          obtain ⟨qb, hqb⟩ : ∃ q, iHex b = q := ⟨_, rfl⟩
          obtain ⟨d, hd⟩ : ∃ d, UInt8.ofNat (qa * 16 + qb) = d := ⟨_, rfl⟩
          rw [hqa] at mA qa1
          rw [hqb] at mB qb1
          have hdn : d.toNat = qa * 16 + qb := by rw [← hd, UInt8.toNat_ofNat']; omega
          have HN : Hid ((out ++ [d]) ++ iRead (s.data.toList.drop (k + 3)) = iRead (s.data.toList.drop 1)) := Lib.hid (by
            rw [← HO.out, HD3.out, iRead_esc, hqa, hqb, hd]
            simp)
          obtain ⟨e1, e2, e3⟩ := esc_facts qa1 qb1 hdn
          obtain ⟨e4, e5, ew1, ew2, et2⟩ := ix_facts HK2.out
          clear hya hyb hqa hqb hd hdn qa1 qb1
          go_wp2_with fail
          refine wp_region_held_drew (S := (fun w' => Grow wr w' ∧ Same wr w')) (by kernel_rfl) (by exact Grow.both (by repeat (with_reducible first | exact Grow.refl _ | assumption | refine Grow.drew ?_ | refine Grow.alloc ?_ _ | refine Grow.set ?_ (by first | exact Nat.le_refl _ | (simp; done) | (simp; omega) | omega) _ | exact And.left (by assumption) | refine Grow.trans ?_ (by assumption)))) (fun hHeld => ?_)
          ((refine held_take (i := 0) 26 (v := ?_) rfl rfl (by kernel_rfl) (by kernel_rfl) (by kernel_rfl) (fun _ _ _ h => h) (by kernel_rfl) ?_ (by assumption) ?_; rotate_left 1; (focus (intro w hSw; (try dsimp only at hSw); go_simp; (try with_reducible rfl); done)); all_goals (try simp only [Act.put, List.setIfInBounds_toArray, List.set_cons_zero, List.set_cons_succ])); (refine held_take (i := 1) 27 (v := ?_) rfl rfl (by kernel_rfl) (by kernel_rfl) (by kernel_rfl) (fun _ _ _ h => h) (by kernel_rfl) ?_ (by assumption) ?_; rotate_left 1; (focus (intro w hSw; (try dsimp only at hSw); go_simp; (try with_reducible rfl); done)); all_goals (try simp only [Act.put, List.setIfInBounds_toArray, List.set_cons_zero, List.set_cons_succ])); (refine held_take (i := 2) 28 (v := ?_) rfl rfl (by kernel_rfl) (by kernel_rfl) (by kernel_rfl) (fun _ _ _ h => h) (by kernel_rfl) ?_ (by assumption) ?_; rotate_left 1; (focus (intro w hSw; (try dsimp only at hSw); go_simp; (try with_reducible rfl); done)); all_goals (try simp only [Act.put, List.setIfInBounds_toArray, List.set_cons_zero, List.set_cons_succ])); (refine held_take (i := 3) 29 (v := ?_) rfl rfl (by kernel_rfl) (by kernel_rfl) (by kernel_rfl) (fun _ _ _ h => h) (by kernel_rfl) ?_ (by assumption) ?_; rotate_left 1; (focus (intro w hSw; (try dsimp only at hSw); go_simp; (try with_reducible rfl); done)); all_goals (try simp only [Act.put, List.setIfInBounds_toArray, List.set_cons_zero, List.set_cons_succ])); (refine held_take (i := 7) 33 (v := ?_) rfl rfl (by kernel_rfl) (by kernel_rfl) (by kernel_rfl) (fun _ _ _ h => h) (by kernel_rfl) ?_ (by assumption) ?_; rotate_left 1; (focus (intro w hSw; (try dsimp only at hSw); go_simp; (try with_reducible rfl); done)); all_goals (try simp only [Act.put, List.setIfInBounds_toArray, List.set_cons_zero, List.set_cons_succ])); (refine held_take (i := 8) 34 (v := ?_) rfl rfl (by kernel_rfl) (by kernel_rfl) (by kernel_rfl) (fun _ _ _ h => h) (by kernel_rfl) ?_ (by assumption) ?_; rotate_left 1; (focus (intro w hSw; (try dsimp only at hSw); go_simp; (try with_reducible rfl); done)); all_goals (try simp only [Act.put, List.setIfInBounds_toArray, List.set_cons_zero, List.set_cons_succ])); (refine held_take (i := 9) 35 (v := ?_) rfl rfl (by kernel_rfl) (by kernel_rfl) (by kernel_rfl) (fun _ _ _ h => h) (by kernel_rfl) ?_ (by assumption) ?_; rotate_left 1; (focus (intro w hSw; (try dsimp only at hSw); go_simp; (try with_reducible rfl); done)); all_goals (try simp only [Act.put, List.setIfInBounds_toArray, List.set_cons_zero, List.set_cons_succ])); (refine held_take (i := 10) 36 (v := ?_) rfl rfl (by kernel_rfl) (by kernel_rfl) (by kernel_rfl) (fun _ _ _ h => h) (by kernel_rfl) ?_ (by assumption) ?_; rotate_left 1; (focus (intro w hSw; (try dsimp only at hSw); go_simp; (try with_reducible rfl); done)); all_goals (try simp only [Act.put, List.setIfInBounds_toArray, List.set_cons_zero, List.set_cons_succ])))
          (refine wpAnyH_ready (rs := [4]) (by kernel_rfl) (by simp) ?_; refine AllReadyH.cons rfl (fun K hK => ?_) AllReadyH.nil; go_simp; (go_at_call 86; refine (hIA _).mono ?_; rintro e w' ⟨rfl, rfl⟩); refine hK.out _ _ (by exact Grow.both (by repeat (with_reducible first | exact Grow.refl _ | assumption | refine Grow.drew ?_ | refine Grow.alloc ?_ _ | refine Grow.set ?_ (by first | exact Nat.le_refl _ | (simp; done) | (simp; omega) | omega) _ | exact And.left (by assumption) | refine Grow.trans ?_ (by assumption)))) (fun hHeld => ?_); clear hK K; (try refine held_put 30 rfl ?_); (try simp only [Act.put, List.setIfInBounds_toArray, List.set_cons_zero, List.set_cons_succ]))
          ((refine held_take (i := 5) 31 (v := ?_) rfl rfl (by kernel_rfl) (by kernel_rfl) (by kernel_rfl) (fun _ _ _ h => h) (by kernel_rfl) ?_ (by assumption) ?_; rotate_left 1; (focus (intro w hSw; (try dsimp only at hSw); go_simp; (try with_reducible rfl); done)); all_goals (try simp only [Act.put, List.setIfInBounds_toArray, List.set_cons_zero, List.set_cons_succ])); (refine held_take (i := 6) 32 (v := ?_) rfl rfl (by kernel_rfl) (by kernel_rfl) (by kernel_rfl) (fun _ _ _ h => h) (by kernel_rfl) ?_ (by assumption) ?_; rotate_left 1; (focus (intro w hSw; (try dsimp only at hSw); go_simp; (try with_reducible rfl); done)); all_goals (try simp only [Act.put, List.setIfInBounds_toArray, List.set_cons_zero, List.set_cons_succ])))
          (refine wpAnyH_ready (rs := [11]) (by kernel_rfl) (by simp) ?_; refine AllReadyH.cons rfl (fun K hK => ?_) AllReadyH.nil; go_simp; (go_at_call 86; refine (hIB _).mono ?_; rintro e w' ⟨rfl, rfl⟩); refine hK.out _ _ (by exact Grow.both (by repeat (with_reducible first | exact Grow.refl _ | assumption | refine Grow.drew ?_ | refine Grow.alloc ?_ _ | refine Grow.set ?_ (by first | exact Nat.le_refl _ | (simp; done) | (simp; omega) | omega) _ | exact And.left (by assumption) | refine Grow.trans ?_ (by assumption)))) (fun hHeld => ?_); clear hK K; (try refine held_put 37 rfl ?_); (try simp only [Act.put, List.setIfInBounds_toArray, List.set_cons_zero, List.set_cons_succ]))
          ((refine held_take (i := 12) 38 (v := ?_) rfl rfl (by kernel_rfl) (by kernel_rfl) (by kernel_rfl) (fun _ _ _ h => h) (by kernel_rfl) ?_ (by assumption) ?_; rotate_left 1; (focus (intro w hSw; (try dsimp only at hSw); go_simp; (try with_reducible rfl); done)); all_goals (try simp only [Act.put, List.setIfInBounds_toArray, List.set_cons_zero, List.set_cons_succ])); (refine held_take (i := 13) 39 (v := ?_) rfl rfl (by kernel_rfl) (by kernel_rfl) (by kernel_rfl) (fun _ _ _ h => h) (by kernel_rfl) ?_ (by assumption) ?_; rotate_left 1; (focus (intro w hSw; (try dsimp only at hSw); go_simp; (try with_reducible rfl); done)); all_goals (try simp only [Act.put, List.setIfInBounds_toArray, List.set_cons_zero, List.set_cons_succ])); (refine held_take (i := 14) 40 (v := ?_) rfl rfl (by kernel_rfl) (by kernel_rfl) (by kernel_rfl) (fun _ _ _ h => h) (by kernel_rfl) ?_ (by assumption) ?_; rotate_left 1; (focus (intro w hSw; (try dsimp only at hSw); go_simp; (try with_reducible rfl); done)); all_goals (try simp only [Act.put, List.setIfInBounds_toArray, List.set_cons_zero, List.set_cons_succ])))
          ((refine held_take (i := 15) 5 (v := ?_) rfl rfl (by kernel_rfl) (by kernel_rfl) (by kernel_rfl) (fun _ _ _ h => h) (by kernel_rfl) ?_ (by assumption) ?_; rotate_left 1; (focus (intro w hSw; (try dsimp only at hSw); go_simp; (try with_reducible rfl); done)); all_goals (try simp only [Act.put, List.setIfInBounds_toArray, List.set_cons_zero, List.set_cons_succ])))
          refine wpAnyH_done (by kernel_rfl) ?_ _
          clear mA mB hIA hIB e1 e2 e3 ew1 ew2 et2
          go_wp2_with (at_builtin; refine wpList_app plain_byte ones_byte elem_byte rfl (.tmp 43) (.tmp 45) (by rfl) (by rfl) (own.grow (((Grow.refl _).alloc _).drew)) (by rfl) (isSl_one (by decide) (new_block _ _) (byte_rd _ _ d)) (q := n + 1) rfl (Nat.le_trans HJ.out.2.2 big_len) (by rw [Nat.mul_one]; exact Nat.le_trans HJ.out.2.2 big_len2) (fun A3 c3 w3 ap3 => ?_))
          go_roundw
          case rel => exact ⟨k + 3, n + 1, c3, A3, out ++ [d], Nat.le_add_left _ _, by go_num, rfl, HJ.out.1, HJ.out.2.1, by rw [natL_app]; exact ap3.own.low (Grow.refl _), HN⟩
          case measure => exact HM.out
        · have i4 : ¬ (k : Int) + 2 < (s.size : Int) := by omega
          have HN : Hid ((out ++ [c]) ++ iRead (s.data.toList.drop (k + 1)) = iRead (s.data.toList.drop 1)) := Lib.hid (by
            rw [← HO.out, HD.out, iRead_else (List.ne_nil_of_length_pos (by rw [HL.out]; omega)) (.inr (by rw [HL.out]; omega))]
            simp)
          go_wp2_with (at_builtin; refine wpList_app plain_byte ones_byte elem_byte rfl (.tmp 43) (.tmp 45) (by rfl) (by rfl) (own.grow ((Grow.refl _).alloc _)) (by rfl) (isSl_one (by decide) (new_block _ _) (byte_rd _ _ c)) (q := n + 1) rfl (by unfold maxLen; omega) (by omega) (fun A3 c3 w3 ap3 => ?_))
          go_roundw
          case rel => exact ⟨k + 1, n + 1, c3, A3, out ++ [c], by omega, by go_num, rfl, by omega, by omega, by rw [natL_app]; exact ap3.own.low (Grow.refl _), HN⟩
          case measure => simp [intOf]; omega
    · have i2 : ¬ (k : Int) + 1 < (s.size : Int) := by omega
      have hcv := conv_str own.isSl
      have HF : Hid (out = iRead (s.data.toList.drop 1)) := Lib.hid (by
        rw [← HO.out]
        have : (s.data.toList.drop k).length ≤ 1 := by rw [List.length_drop, ← size_list]; omega
        match hm : s.data.toList.drop k, this with
        | [], _ => simp [iRead]
        | [x], _ => simp [iRead])
      go_wp2
      go_ret
      have e : iRead s.data.toList.tail = out := by rw [HF.out, List.drop_one]
      exact ⟨by rw [e]; rfl, hG⟩
end Go.Proofs.YtdgmoplfiodahaaGreatDoor
