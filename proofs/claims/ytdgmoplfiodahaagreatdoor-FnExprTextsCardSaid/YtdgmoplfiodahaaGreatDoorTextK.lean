import Derived.Test.YtdgmoplfiodahaaGreatDoorTextG
/-! The reference's words, walked. -/
namespace Go.Proofs.YtdgmoplfiodahaaGreatDoor
open Go.RowKit
set_option linter.unusedVariables false
set_option linter.unusedSimpArgs false
/-- What stands ahead of the first blank, what behind it, and whether there is one. -/
def cutW : List UInt8 → List UInt8 × List UInt8 × Bool
  | [] => ([], [], false)
  | c :: r => if c = 32 then ([], r, true) else (c :: (cutW r).1, (cutW r).2.1, (cutW r).2.2)
theorem wordsL_cutW (l : List UInt8) : wordsL l = if (cutW l).2.2 = true then (cutW l).1 :: wordsL (cutW l).2.1 else [(cutW l).1] := by
  induction l with
  | nil => rfl
  | cons c r ih =>
    by_cases h : c = 32
    · simp [wordsL, cutW, h]
    · rw [wordsL, if_neg h, ih]
      simp only [cutW, if_neg h]
      cases (cutW r).2.2 <;> simp
theorem cutW_len (l : List UInt8) (h : (cutW l).2.2 = true) : (cutW l).2.1.length < l.length := by
  induction l with
  | nil => cases h
  | cons c r ih =>
    by_cases hc : c = 32
    · simp [cutW, hc]
    · simp only [cutW, if_neg hc] at h ⊢
      have := ih h
      simp only [List.length_cons]; omega
theorem cutW_snd (l : List UInt8) : (cutW l).2.1.length ≤ l.length := by
  induction l with
  | nil => simp [cutW]
  | cons c r ih =>
    by_cases hc : c = 32
    · simp [cutW, hc]
    · simp only [cutW, if_neg hc, List.length_cons]; omega
theorem cutW_fst (l : List UInt8) : (cutW l).1.length ≤ l.length := by
  induction l with
  | nil => simp [cutW]
  | cons c r ih =>
    by_cases hc : c = 32
    · simp [cutW, hc]
    · simp only [cutW, if_neg hc, List.length_cons]; omega
theorem ext_take {s : ByteArray} {l : List UInt8} (h : s.data.toList = l) (k : Nat) : s.extract 0 k = strOf (l.take k) := by
  apply ByteArray.ext
  apply Array.toList_inj.mp
  rw [ByteArray.data_extract, Array.toList_extract, List.extract_eq_take_drop, h]
  simp [strOf]
theorem ext_drop {s : ByteArray} {l : List UInt8} (h : s.data.toList = l) (k : Nat) : s.extract k s.size = strOf (l.drop k) := by
  apply ByteArray.ext
  apply Array.toList_inj.mp
  rw [ByteArray.data_extract, Array.toList_extract, List.extract_eq_take_drop, size_list, h]
  simp [strOf, List.take_of_length_le]
set_option maxHeartbeats 2000000 in
theorem l1Cut_any (s : ByteArray) (w : World) (hs : s.size ≤ 1048576) : Calls Tryz.prog 31 #[.string s, .int .u8 32] w
    (Ret w (.tuple #[.string (strOf (cutW s.data.toList).1), .string (strOf (cutW s.data.toList).2.1), .bool (cutW s.data.toList).2.2])) := by
  obtain ⟨l, hl⟩ : ∃ l, s.data.toList = l := ⟨_, rfl⟩
  have HL := Lib.hid hl
  have HS := Lib.hid hs
  have HZ : Hid (s.size = l.length) := Lib.hid (by rw [size_list, hl])
  rw [hl]
  clear hl hs
  go_enter Tryz.func31, Tryz.ntmps31
  go_wp2_with fail
  go_loopw [7] (fun iv wr => ∃ k : Nat, k ≤ s.size ∧ iv = .int .i64 k ∧ wr = w ∧ Hid (cutW l = (l.take k ++ (cutW (l.drop k)).1, (cutW (l.drop k)).2.1, (cutW (l.drop k)).2.2))) (fun iv _ => s.size - (intOf iv).toNat)
  case atStart => exact ⟨0, Nat.zero_le _, rfl, rfl, Lib.hid (by simp)⟩
  case round =>
    obtain ⟨k, hk, rfl, rfl, HC⟩ := hrel
    by_cases hlt : k < s.size
    · have i0 : (0 : Int) ≤ (k : Int) := Int.natCast_nonneg k
      have i1 : (k : Int) < (s.size : Int) := Int.ofNat_lt.mpr hlt
      obtain ⟨c, hc⟩ : ∃ c, s[k]'hlt = c := ⟨_, rfl⟩
      have HD : Hid (l.drop k = c :: l.drop (k + 1)) := Lib.hid (by rw [← HL.out, drop_at hlt, hc])
      have HTK : Hid (l.take (k + 1) = l.take k ++ [c]) := Lib.hid (by
        have hkl : k < l.length := by rw [← HZ.out]; exact hlt
        rw [List.take_succ_eq_append_getElem hkl]
        have h1 := HD.out
        rw [List.drop_eq_getElem_cons hkl] at h1
        injection h1 with h1 _
        rw [h1])
      have h32 : (c = 32) ↔ ((c.toNat : Int) == 32) = true := by rw [← beq_iff_eq, u8_beq c 32]; rfl
      cases hb : ((c.toNat : Int) == 32) with
      | false =>
        have HN : Hid (cutW l = (l.take (k + 1) ++ (cutW (l.drop (k + 1))).1, (cutW (l.drop (k + 1))).2.1, (cutW (l.drop (k + 1))).2.2)) := Lib.hid (by
          rw [HC.out, HD.out, HTK.out, cutW, if_neg (fun h => by have := h32.mp h; rw [hb] at this; cases this)]
          simp)
        have EK := Lib.hid (show wrap64 ((k : Int) + 1) = (k : Int) + 1 by have := HS.out; unfold wrap64; omega)
        have HI : Hid (Value.int .i64 (wrap64 ((k : Int) + 1)) = .int .i64 ((k + 1 : Nat) : Int)) := Lib.hid (by rw [EK.out]; simp)
        have HM : Hid (s.size - (intOf (.int .i64 (wrap64 ((k : Int) + 1)))).toNat < s.size - (intOf (.int .i64 (k : Int))).toNat) := Lib.hid (by rw [EK.out]; simp [intOf]; omega)
        clear h32
        go_wp2
        exact ⟨⟨k + 1, hlt, HI.out, (by first | rfl | trivial), HN⟩, HM.out⟩
      | true =>
        have HN : Hid (cutW l = (l.take k, l.drop (k + 1), true)) := Lib.hid (by
          rw [HC.out, HD.out, cutW, if_pos (h32.mpr hb)]
          simp)
        have k1 : (k : Int) ≤ (s.size : Int) := by omega
        have k2 : (k : Int) + 1 ≤ (s.size : Int) := by omega
        have k3 : (0 : Int) ≤ (k : Int) + 1 := by omega
        have et : ((k : Int) + 1).toNat = k + 1 := by omega
        have eP := ext_take HL.out k
        have eR := ext_drop HL.out (k + 1)
        have ek : IntKind.i64.wrap ((k : Int) + 1) = (k : Int) + 1 := IntWalk.i64_in _ (by have := HS.out; omega)
        clear h32
        go_wp2_with fail
        refine wp_region_held_drew (S := (fun w' => Grow wr w' ∧ Same wr w')) (by kernel_rfl) (by exact Grow.both (by repeat (with_reducible first | exact Grow.refl _ | assumption | refine Grow.drew ?_ | refine Grow.alloc ?_ _ | refine Grow.set ?_ (by first | exact Nat.le_refl _ | (simp; done) | (simp; omega) | omega) _ | exact And.left (by assumption) | refine Grow.trans ?_ (by assumption)))) (fun hHeld => ?_)
        ((refine held_take (i := 0) 19 (v := ?_) rfl rfl (by kernel_rfl) (by kernel_rfl) (by kernel_rfl) (fun _ _ _ h => h) (by kernel_rfl) ?_ (by assumption) ?_; rotate_left 1; (focus (intro w hSw; (try dsimp only at hSw); go_simp; (try with_reducible rfl); done)); all_goals (try simp only [Act.put, List.setIfInBounds_toArray, List.set_cons_zero, List.set_cons_succ])); (refine held_take (i := 1) 20 (v := ?_) rfl rfl (by kernel_rfl) (by kernel_rfl) (by kernel_rfl) (fun _ _ _ h => h) (by kernel_rfl) ?_ (by assumption) ?_; rotate_left 1; (focus (intro w hSw; (try dsimp only at hSw); go_simp; (try with_reducible rfl); done)); all_goals (try simp only [Act.put, List.setIfInBounds_toArray, List.set_cons_zero, List.set_cons_succ])); (refine held_take (i := 3) 22 (v := ?_) rfl rfl (by kernel_rfl) (by kernel_rfl) (by kernel_rfl) (fun _ _ _ h => h) (by kernel_rfl) ?_ (by assumption) ?_; rotate_left 1; (focus (intro w hSw; (try dsimp only at hSw); go_simp; (try with_reducible rfl); done)); all_goals (try simp only [Act.put, List.setIfInBounds_toArray, List.set_cons_zero, List.set_cons_succ])); (refine held_take (i := 4) 23 (v := ?_) rfl rfl (by kernel_rfl) (by kernel_rfl) (by kernel_rfl) (fun _ _ _ h => h) (by kernel_rfl) ?_ (by assumption) ?_; rotate_left 1; (focus (intro w hSw; (try dsimp only at hSw); go_simp; (try with_reducible rfl); done)); all_goals (try simp only [Act.put, List.setIfInBounds_toArray, List.set_cons_zero, List.set_cons_succ])); (refine held_take (i := 5) 24 (v := ?_) rfl rfl (by kernel_rfl) (by kernel_rfl) (by kernel_rfl) (fun _ _ _ h => h) (by kernel_rfl) ?_ (by assumption) ?_; rotate_left 1; (focus (intro w hSw; (try dsimp only at hSw); go_simp; (try with_reducible rfl); done)); all_goals (try simp only [Act.put, List.setIfInBounds_toArray, List.set_cons_zero, List.set_cons_succ])))
        (refine held_take (i := 2) 21 (v := .string (strOf (l.take k))) rfl rfl (by kernel_rfl) (by kernel_rfl) (by kernel_rfl) (fun _ _ _ h => h) (by kernel_rfl) ?_ (by assumption) ?_; (focus (intro w hSw; (try dsimp only at hSw); go_simp; all_goals exact eP)); all_goals (try simp only [Act.put, List.setIfInBounds_toArray, List.set_cons_zero, List.set_cons_succ]))
        (refine held_take (i := 6) 25 (v := .string (strOf (l.drop (k + 1)))) rfl rfl (by kernel_rfl) (by kernel_rfl) (by kernel_rfl) (fun _ _ _ h => h) (by kernel_rfl) ?_ (by assumption) ?_; (focus (intro w hSw; (try dsimp only at hSw); go_simp; all_goals (first | exact eR | (rw [← eR]; simp [et])))); all_goals (try simp only [Act.put, List.setIfInBounds_toArray, List.set_cons_zero, List.set_cons_succ]))
        ((refine held_take (i := 7) 4 (v := ?_) rfl rfl (by kernel_rfl) (by kernel_rfl) (by kernel_rfl) (fun _ _ _ h => h) (by kernel_rfl) ?_ (by assumption) ?_; rotate_left 1; (focus (intro w hSw; (try dsimp only at hSw); go_simp; (try with_reducible rfl); done)); all_goals (try simp only [Act.put, List.setIfInBounds_toArray, List.set_cons_zero, List.set_cons_succ])); (refine held_take (i := 8) 5 (v := ?_) rfl rfl (by kernel_rfl) (by kernel_rfl) (by kernel_rfl) (fun _ _ _ h => h) (by kernel_rfl) ?_ (by assumption) ?_; rotate_left 1; (focus (intro w hSw; (try dsimp only at hSw); go_simp; (try with_reducible rfl); done)); all_goals (try simp only [Act.put, List.setIfInBounds_toArray, List.set_cons_zero, List.set_cons_succ])); (refine held_take (i := 9) 6 (v := ?_) rfl rfl (by kernel_rfl) (by kernel_rfl) (by kernel_rfl) (fun _ _ _ h => h) (by kernel_rfl) ?_ (by assumption) ?_; rotate_left 1; (focus (intro w hSw; (try dsimp only at hSw); go_simp; (try with_reducible rfl); done)); all_goals (try simp only [Act.put, List.setIfInBounds_toArray, List.set_cons_zero, List.set_cons_succ])))
        refine wpAnyH_done (by kernel_rfl) ?_ _
        clear ek et
        go_wp2_with fail
        exact bodyPost_ret (v := .tuple #[.string (strOf (l.take k)), .string (strOf (l.drop (k + 1))), .bool true]) (by simp [results, Tryz.results31, go_sem]) rfl ⟨by rw [HN.out], (Grow.refl _).drew⟩
    · obtain rfl : k = s.size := by omega
      have HN : Hid (cutW l = (l, [], false)) := Lib.hid (by
        rw [HC.out, List.drop_of_length_le (by rw [HZ.out]; exact Nat.le_refl _), List.take_of_length_le (by rw [HZ.out]; exact Nat.le_refl _)]
        simp [cutW])
      have HSS : Hid (s = strOf l) := Lib.hid (by rw [← HL.out, strOf_list])
      go_wp2_with fail
      exact bodyPost_ret (v := .tuple #[.string s, .string ⟨#[]⟩, .bool false]) (by simp [results, Tryz.results31, go_sem]) rfl ⟨by rw [HN.out]; dsimp only; rw [← HSS.out]; rfl, Grow.refl _⟩
theorem info_strK : (Tryz.prog.info? 9).map (fun i => (i.zero, i.size, i.bytes)) = some (some (.string ⟨#[]⟩), 1, 16) := by kernel_rfl
theorem elem_strK : ElemOk Tryz.prog 33 9 1 16 := elemOk_of Tryz.underlying33 info_strK rfl (by decide)
set_option maxHeartbeats 2000000 in
theorem l1Words_any (s : ByteArray) (w : World) (hs : s.size ≤ 1048576) : Calls Tryz.prog 16 #[.string s, .int .u8 32] w
    (fun e w' => ∃ (Q : Option Addr) (n c : Nat), e = .returned (.slice Q n c) ∧ OwnF Kd.str 9 w w' Q n c ((wordsL s.data.toList).map strOf)) := by
  have HS := Lib.hid hs
  clear hs
  go_enter Tryz.func16, Tryz.ntmps16
  go_wp2_with fail
  go_loopw [0, 5, 6, 7] (fun rv sv mv _ wr => ∃ (r : ByteArray) (more : Bool) (n c : Nat) (Q : Option Addr) (ws : List ByteArray), rv = .string r ∧ mv = .bool more ∧ sv = .slice Q n c ∧ OwnF Kd.str 9 w wr Q n c ws ∧ r.size ≤ s.size ∧ n + (if more = true then r.size + 1 else 0) ≤ s.size + 1 ∧ Hid ((if more = true then ws ++ (wordsL r.data.toList).map strOf else ws) = (wordsL s.data.toList).map strOf))
    (fun rv _ mv _ _ => match mv, rv with | .bool true, .string r => r.size + 1 | _, _ => 0)
  case atStart => exact ⟨s, true, 0, 0, _, [], rfl, rfl, rfl, OwnF.made (Grow.refl w), Nat.le_refl _, by simp, Lib.hid (by simp)⟩
  case round =>
    obtain ⟨r, more, n, cp, Q, ws, rfl, rfl, rfl, own, hrs, hn, HW⟩ := hrel
    have hg := own.grows
    cases more with
    | false =>
      have HF : Hid (ws = (wordsL s.data.toList).map strOf) := Lib.hid (by have := HW.out; simpa using this)
      go_wp2
      go_ret
      exact ⟨Q, n, cp, rfl, by rw [← HF.out]; exact own⟩
    | true =>
      replace hn : n + (r.size + 1) ≤ s.size + 1 := hn
      have hn1 : n + 1 ≤ 1048577 := by have := HS.out; omega
      have HC := l1Cut_any r wr (Nat.le_trans hrs HS.out)
      obtain ⟨q, hq⟩ : ∃ q, cutW r.data.toList = q := ⟨_, rfl⟩
      have HQ := Lib.hid hq
      obtain ⟨a, b, m⟩ := q
      rw [hq] at HC
      dsimp only at HC
      have hfa : (strOf a).size ≤ maxLen := by
        have := cutW_fst r.data.toList
        rw [hq] at this
        have h2 := HS.out
        rw [strOf_size]; unfold maxLen
        have h3 : r.data.toList.length = r.size := rfl
        simp only at this
        omega
      have HFA := Lib.hid hfa
      have HBL : Hid (m = true → (strOf b).size < r.size) := Lib.hid (by
        intro hm
        have := cutW_len r.data.toList (by rw [hq]; exact hm)
        rw [hq] at this
        rw [strOf_size]; exact this)
      have HBS : Hid ((strOf b).size ≤ r.size) := Lib.hid (by
        have := cutW_snd r.data.toList
        rw [hq] at this
        rw [strOf_size]; exact this)
      have HWS : Hid ((if m = true then (ws ++ [strOf a]) ++ (wordsL (strOf b).data.toList).map strOf else ws ++ [strOf a]) = (wordsL s.data.toList).map strOf) := Lib.hid (by
        have h1 := HW.out
        rw [if_pos rfl, wordsL_cutW, hq] at h1
        dsimp only at h1
        rw [← h1, strOf_toList]
        cases m <;> simp)
      clear hq hfa
      go_wp2_with fail
      refine HC.mono ?_
      rintro e w2 ⟨rfl, g2⟩
      have own2 := own.grow g2
      go_wp2_with (at_builtin; refine wpList_app plain_str ones_str elem_strK rfl (.tmp 17) (.tmp 19) (by rfl) (by rfl) (own2.grow ((Grow.refl _).alloc _)) (by rfl) (isSl_one (by decide) (new_block _ _) ⟨rfl, HFA.out⟩) (q := n + 1) rfl (by unfold maxLen; omega) (by omega) (fun A3 c3 w4 ap => ?_))
      go_roundw
      case rel =>
        refine ⟨strOf b, m, n + 1, c3, A3, ws ++ [strOf a], rfl, rfl, rfl, ap.own.low (Grow.refl _), ?_, ?_, HWS⟩
        · exact Nat.le_trans HBS.out hrs
        · cases m with
          | true => have := HBL.out rfl; show n + 1 + ((strOf b).size + 1) ≤ s.size + 1; omega
          | false => show n + 1 + 0 ≤ s.size + 1; omega
      case measure =>
        cases m with
        | true => have := HBL.out rfl; show (strOf b).size + 1 < r.size + 1; omega
        | false => show 0 < r.size + 1; omega
end Go.Proofs.YtdgmoplfiodahaaGreatDoor
