import Derived.Test.YtdgmoplfiodahaaGreatDoorText
/-! ValText of the reference and of the program, walked. -/
namespace Go.Proofs.YtdgmoplfiodahaaGreatDoor
open Go.RowKit
set_option linter.unusedVariables false
set_option linter.unusedSimpArgs false
theorem text_bad {v : Val} (h : okB v = false) : textL v = [] := by unfold textL; simp [h]
theorem esc_cases {c : UInt8} (h : plainB c = false) : (c.toNat : Int) < 33 ∨ (¬ (c.toNat : Int) < 33 ∧ (126 : Int) < (c.toNat : Int)) ∨ (¬ (c.toNat : Int) < 33 ∧ ¬ (126 : Int) < (c.toNat : Int) ∧ ((c.toNat : Int) == 39) = true) ∨
    (¬ (c.toNat : Int) < 33 ∧ ¬ (126 : Int) < (c.toNat : Int) ∧ ((c.toNat : Int) == 39) = false ∧ ((c.toNat : Int) == 37) = true) ∨
    (¬ (c.toNat : Int) < 33 ∧ ¬ (126 : Int) < (c.toNat : Int) ∧ ((c.toNat : Int) == 39) = false ∧ ((c.toNat : Int) == 37) = false ∧ ((c.toNat : Int) == 44) = true) := by
  have e : ∀ x : UInt8, (c == x) = ((c.toNat : Int) == (x.toNat : Int)) := fun x => by
    rw [Bool.eq_iff_iff, beq_iff_eq, beq_iff_eq]
    exact ⟨fun h => by rw [h], fun h => UInt8.toNat_inj.mp (by omega)⟩
  unfold plainB at h
  rw [e 39, e 37, e 44] at h
  have e1 : ((39 : UInt8).toNat : Int) = 39 := rfl
  have e2 : ((37 : UInt8).toNat : Int) = 37 := rfl
  have e3 : ((44 : UInt8).toNat : Int) = 44 := rfl
  rw [e1, e2, e3] at h
  by_cases h1 : (c.toNat : Int) < 33
  · exact .inl h1
  by_cases h2 : (126 : Int) < (c.toNat : Int)
  · exact .inr (.inl ⟨h1, h2⟩)
  have d1 : 33 ≤ c.toNat := by omega
  have d2 : c.toNat ≤ 126 := by omega
  simp only [d1, d2, decide_true, Bool.true_and, Bool.not_eq_false', Bool.or_eq_true] at h
  cases h3 : ((c.toNat : Int) == 39)
  · cases h4 : ((c.toNat : Int) == 37)
    · rw [h3, h4] at h
      exact .inr (.inr (.inr (.inr ⟨h1, h2, rfl, rfl, by simpa using h⟩)))
    · exact .inr (.inr (.inr (.inl ⟨h1, h2, rfl, rfl⟩)))
  · exact .inr (.inr (.inl ⟨h1, h2, rfl⟩))
theorem esc_plain {c : UInt8} (h : plainB c = true) : ¬ (c.toNat : Int) < 33 ∧ ¬ (126 : Int) < (c.toNat : Int) ∧ ((c.toNat : Int) == 39) = false ∧ ((c.toNat : Int) == 37) = false ∧ ((c.toNat : Int) == 44) = false := by
  have e : ∀ x : UInt8, (c == x) = ((c.toNat : Int) == (x.toNat : Int)) := fun x => by
    rw [Bool.eq_iff_iff, beq_iff_eq, beq_iff_eq]
    exact ⟨fun h => by rw [h], fun h => UInt8.toNat_inj.mp (by omega)⟩
  unfold plainB at h
  rw [e 39, e 37, e 44] at h
  simp only [Bool.and_eq_true, decide_eq_true_eq, Bool.not_eq_true', Bool.or_eq_false_iff] at h
  exact ⟨by omega, by omega, h.2.2.1, h.2.2.2.1, h.2.2.2.2⟩
theorem body_step {l : List UInt8} {k : Nat} {c : UInt8} (h : l[k]? = some c) : bodyL (l.take (k + 1)) = bodyL (l.take k) ++ escL c := by
  obtain ⟨hk, rfl⟩ := List.getElem?_eq_some_iff.mp h
  unfold bodyL
  rw [List.take_succ_eq_append_getElem hk, List.flatMap_append]
  simp
theorem body_len (l : List UInt8) : (bodyL l).length ≤ 3 * l.length := by
  induction l with
  | nil => simp [bodyL]
  | cons c l ih =>
    have : bodyL (c :: l) = escL c ++ bodyL l := rfl
    rw [this, List.length_append]
    have : (escL c).length ≤ 3 := by unfold escL; split <;> simp
    simp only [List.length_cons]
    omega
theorem fits {a : Nat} (h : a ≤ 4000) : a ≤ 9223372036854775807 := Nat.le_trans h (by decide)
theorem byte_at {s : ByteArray} {k : Nat} (h : k < s.size) : s.data.toList[k]? = some (s[k]'h) := by
  have h2 : k < s.data.toList.length := h
  rw [List.getElem?_eq_getElem h2]; rfl
theorem ext_one {s : ByteArray} {k : Nat} {c : UInt8} (h : s.data.toList[k]? = some c) : s.extract k (k + 1) = strOf [c] := by
  obtain ⟨hk, rfl⟩ := List.getElem?_eq_some_iff.mp h
  apply ByteArray.ext
  apply Array.toList_inj.mp
  have e : (s.extract k (k + 1)).data.toList = (s.data.toList.drop k).take 1 := by
    rw [ByteArray.data_extract, Array.toList_extract, List.extract_eq_take_drop]
    congr 1
    omega
  rw [e, List.drop_eq_getElem_cons hk]
  rfl
theorem quote_app (L : List UInt8) : strOf L ++ { data := #[37] } = strOf (L ++ [37]) := strOf_app L [37]
set_option maxHeartbeats 1000000 in
theorem sValText_any (v : Val) (w : World) : Calls Tryz.prog 54 #[.agg #[.int .i64 v.kind, .int .i64 v.n, .string v.s]] w (Ret w (.string (strOf (textL v)))) := by
  obtain ⟨q, hq⟩ : ∃ q, okB v = q := ⟨_, rfl⟩
  have HQ := Lib.hid hq
  go_enter Tryz.func54, Tryz.ntmps54
  go_wp2_with fail
  generalize hW : World.alloc w _ = W
  obtain ⟨gW, sW, kW⟩ := boxed1 hW
  clear hW
  have hcur := Grow.refl W
  cases q with
  | false =>
    go_wp2_with (go_at_call 74; refine (sValOk_any _ _ _ _).mono ?_; rw [hq]; rintro e w1 ⟨rfl, hb⟩; replace hcur := hcur.trans hb; replace hc := hcur.same; clear hb)
    go_ret
    exact ⟨by rw [text_bad hq]; rfl, gW.trans hcur⟩
  | true =>
    rcases ok_cases hq with rfl | ⟨n, n0, n1, rfl⟩ | ⟨s, hs, rfl⟩
    · clear hq
      go_wp2_with (go_at_call 74; refine (sValOk_any _ _ _ _).mono ?_; rw [HQ.out]; rintro e w1 ⟨rfl, hb⟩; replace hcur := hcur.trans hb; replace hc := hcur.same; clear hb)
      go_ret
      exact ⟨by rw [text_zero]; rfl, gW.trans hcur⟩
    · clear hq
      have N0 := Lib.hid n0
      have N1 := Lib.hid n1
      clear n0 n1
      go_wp2_with (first | (go_at_call 74; refine (sValOk_any _ _ _ _).mono ?_; rw [HQ.out]; rintro e w1 ⟨rfl, hb⟩; replace hcur := hcur.trans hb; replace hc := hcur.same; clear hb) | (go_at_call 53; (with_reducible refine (l1Dec_any _ _ N0.out N1.out).mono ?_); rintro e w1 ⟨rfl, hb⟩; replace hcur := hcur.trans hb; replace hc := hcur.same; clear hb))
      go_ret
      exact ⟨by rw [text_int N0.out N1.out]; rfl, gW.trans hcur⟩
    · clear hq
      go_wp2_with (go_at_call 74; refine (sValOk_any _ _ _ _).mono ?_; rw [HQ.out]; rintro e w1 ⟨rfl, hb⟩; replace hcur := hcur.trans hb; replace hc := hcur.same; clear hb)
      have hk := (hcur.same _ 2 sW).trans (kW 2)
      simp only [List.getElem?_toArray, List.getElem?_cons_succ, List.getElem?_cons_zero] at hk
      go_loopw [3, 4] (fun sv iv wr => ∃ k : Nat, k ≤ s.size ∧ iv = .int .i64 k ∧ sv = .string (strOf (39 :: bodyL (s.data.toList.take k))) ∧ Grow W wr) (fun _ iv _ => s.size - (intOf iv).toNat)
      case atStart => exact ⟨0, Nat.zero_le _, rfl, rfl, hcur⟩
      case round =>
        obtain ⟨k, hks, rfl, rfl, hg⟩ := hrel
        have k2 := (hg.same _ 2 sW).trans (kW 2)
        have hsr := Nat.lt_of_lt_of_le sW hg.size
        by_cases hlt : k < s.size
        · have i0 : (0 : Int) ≤ (k : Int) := Int.natCast_nonneg k
          have i1 : (k : Int) < (s.size : Int) := Int.ofNat_lt.mpr hlt
          obtain ⟨c, hc⟩ : ∃ c, s[k]'hlt = c := ⟨_, rfl⟩
          have HC := Lib.hid ((byte_at hlt).trans (congrArg some hc))
          have HS := Lib.hid (body_step HC.out)
          obtain ⟨L, hL⟩ : ∃ L, (39 :: bodyL (s.data.toList.take k) : List UInt8) = L := ⟨_, rfl⟩
          have HL := Lib.hid hL
          have hz : ∀ l, (strOf l).size = l.length := strOf_size
          have hln : L.length ≤ 40 := by
            rw [← hL]
            have := body_len (s.data.toList.take k)
            rw [List.length_take] at this
            simp only [List.length_cons]
            omega
          have c1 : L.length + 1 ≤ 9223372036854775807 := fits (by omega)
          have c2 : L.length + 1 + 2 ≤ 9223372036854775807 := fits (by omega)
          rw [hL]
          clear hL hln
          have hcur := Grow.refl wr
          cases hpb : plainB c with
          | true =>
            have HPB := Lib.hid hpb
            obtain ⟨x1, x2, x3, x4, x5⟩ := esc_plain hpb
            clear hpb
            go_wp2
            exact ⟨⟨k + 1, by omega, by go_num, by rw [ext_one HC.out, strOf_app, HS.out, ← HL.out, escL, if_pos HPB.out]; rfl, hg⟩, by simp [intOf]; omega⟩
          | false =>
            have HPB := Lib.hid hpb
            rcases esc_cases hpb with x1 | ⟨x1, x2⟩ | ⟨x1, x2, x3⟩ | ⟨x1, x2, x3, x4⟩ | ⟨x1, x2, x3, x4, x5⟩
            all_goals
              clear hpb
              go_wp2_with ((go_at_call 75; (with_reducible refine (l1Hex_any _ _ c.toNat_lt).mono ?_); rintro e w1 ⟨rfl, hb⟩; replace hcur := hcur.trans hb; replace hc := hcur.same; clear hb))
              exact ⟨⟨k + 1, by omega, by go_num, by rw [quote_app, strOf_app, HS.out, ← HL.out, escL, if_neg (by rw [HPB.out]; decide)]; simp, hg.trans hcur⟩, by simp [intOf]; omega⟩
        · obtain rfl : k = s.size := by omega
          have ht : s.data.toList.take s.size = s.data.toList := List.take_of_length_le (Nat.le_refl _)
          rw [ht]
          obtain ⟨L, hL⟩ : ∃ L, (39 :: bodyL s.data.toList : List UInt8) = L := ⟨_, rfl⟩
          have HL := Lib.hid hL
          have hz : ∀ l, (strOf l).size = l.length := strOf_size
          have hln : L.length ≤ 40 := by
            rw [← hL]
            have := body_len s.data.toList
            have h2 : s.data.toList.length = s.size := rfl
            simp only [List.length_cons]
            omega
          have c1 : L.length + 1 ≤ 9223372036854775807 := fits (by omega)
          rw [hL]
          clear hL hln ht
          go_wp2
          go_ret
          refine ⟨?_, gW.trans hg⟩
          rw [text_str hs, ← List.cons_append, HL.out]
          exact congrArg (fun x => Ending.returned (Value.string x)) (strOf_app L [39])
end Go.Proofs.YtdgmoplfiodahaaGreatDoor
