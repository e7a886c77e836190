import Derived.Test.YtdgmoplfiodahaaGreatDoorTextS
import Derived.Lib.SmallJoins
import Derived.Sort.Grow
/-! The program's ValText, walked. -/
namespace Go.Proofs.YtdgmoplfiodahaaGreatDoor
open Go.RowKit
set_option linter.unusedVariables false
set_option linter.unusedSimpArgs false
/-- The library's table of powers of ten stands as its initialiser lays it. -/
def Pow10 (w : World) : Prop := Lib.TabIs Tryz.prog w "internal/strconv.uint64pow10" .u64 Lib.pow10Tab
theorem Pow10.grow {w w' : World} (h : Pow10 w) (hg : Grow w w') : Pow10 w' := by
  unfold Pow10 Lib.TabIs World.var? at h ⊢
  cases hgn : Tryz.prog.globalNamed "internal/strconv.uint64pow10" with
  | none => rw [hgn] at h; cases h
  | some g =>
    rw [hgn] at h
    simp only [Option.bind_some] at h ⊢
    have hlt : g < w.heap.size := by
      rcases Nat.lt_or_ge g w.heap.size with h' | h'
      · exact h'
      · rw [Array.getElem?_eq_none h'] at h; cases h
    rw [hg.block hlt]
    exact h
theorem grow_lib (w : World) (k : Nat) (os : Array Obj) : Grow w (Sort.grow (w.drewN k) os) :=
  ⟨rfl, rfl, rfl, by show w.heap.size ≤ (w.heap ++ os).size; simp, fun b hb => by show (w.heap ++ os)[b]? = _; rw [Array.getElem?_append_left hb]⟩
/-- A builder of the call's own, at block b, that holds these bytes. -/
def Bld (B b : Nat) (l : List UInt8) (w : World) : Prop := Lib.IsBuilder 82 5 B b (Lib.byteCells l) w
theorem byteCells_len (l : List UInt8) : (Lib.byteCells l).length = l.length := by simp [Lib.byteCells]
theorem wb_any (B b : Nat) (l : List UInt8) (c : UInt8) (w : World) (h : Bld B b l w) (hl : l.length ≤ 4000) (hB : B ≤ w.heap.size) :
    Calls Tryz.prog 69 #[.pointer (some ⟨b, 0, none⟩), .int .u8 (c.toNat : Int)] w (fun e w' => e = .returned .nilIface ∧ Bld B b (l ++ [c]) w' ∧ Below B w w') :=
  (Tryz.Builder_WriteByte B b _ _ w h (by rw [byteCells_len]; exact Nat.le_trans (Nat.add_le_add_right hl 1) (by decide)) hB).mono fun e w' ⟨he, hb, hw⟩ => ⟨he, .inr (by
    have e1 : Lib.byteCells (l ++ [c]) = Lib.byteCells l ++ [.int .u8 (c.toNat : Int)] := by simp [Lib.byteCells]
    rw [e1]; exact hb), hw⟩
theorem hex_at : ∀ q, (hq : q < 16) → (ByteArray.mk #[48, 49, 50, 51, 52, 53, 54, 55, 56, 57, 97, 98, 99, 100, 101, 102])[q]'(by show q < 16; exact hq) = hexD q := by
  have : ∀ q : Fin 16, (ByteArray.mk #[48, 49, 50, 51, 52, 53, 54, 55, 56, 57, 97, 98, 99, 100, 101, 102]).data.toList[q.val]? = some (hexD q.val) := by decide +kernel
  intro q hq
  have h := this ⟨q, hq⟩
  have h2 := byte_at (s := ByteArray.mk #[48, 49, 50, 51, 52, 53, 54, 55, 56, 57, 97, 98, 99, 100, 101, 102]) (k := q) (by show q < 16; exact hq)
  exact Option.some.inj (h2.symm.trans h)
theorem esc_yes {c : UInt8} (h : plainB c = false) (h1 : 33 ≤ c.toNat) (h2 : c.toNat ≤ 126) : (c == 39 || (c == 37 || c == 44)) = true := by
  unfold plainB at h
  simp only [h1, h2, decide_true, Bool.true_and, Bool.not_eq_false'] at h
  exact h
theorem contains_any (c : UInt8) (w : World) (h : c.toNat < 128) : Calls Tryz.prog 70 #[.string { data := #[39, 37, 44] }, .int .i32 (c.toNat : Int)] w (Just w (.bool (c == 39 || (c == 37 || c == 44)))) := by
  refine (Tryz.strings_ContainsRune_ascii _ _ w (by omega) (by omega)).mono ?_
  rintro e w' ⟨rfl, rfl⟩
  refine ⟨ret_bool ?_, rfl⟩
  have e1 : ((c.toNat : Int).toNat).toUInt8 = c := by simp
  rw [e1]
  show decide (0 ≤ Lib.indexByte [39, 37, 44] c) = _
  revert c
  have : ∀ n : Fin 128, decide (0 ≤ Lib.indexByte [39, 37, 44] (UInt8.ofNat n.val)) = (UInt8.ofNat n.val == 39 || (UInt8.ofNat n.val == 37 || UInt8.ofNat n.val == 44)) := by decide +kernel
  intro c hc _
  have := this ⟨c.toNat, hc⟩
  simpa using this
set_option maxHeartbeats 2000000 in
theorem iValText_any (v : Val) (w : World) (hp : Pow10 w) : Calls Tryz.prog 47 #[.agg #[.int .i64 v.kind, .int .i64 v.n, .string v.s]] w (Ret w (.string (strOf (textL v)))) := by
  obtain ⟨q, hq⟩ : ∃ q, okB v = q := ⟨_, rfl⟩
  have HQ := Lib.hid hq
  have HP := Lib.hid hp
  clear hp
  go_enter Tryz.func47, Tryz.ntmps47
  go_wp2_with fail
  generalize hW : World.alloc w _ = W
  obtain ⟨gW, sW, kW⟩ := boxed1 hW
  clear hW
  have hcur := Grow.refl W
  cases q with
  | false =>
    go_wp2_with (go_at_call 67; refine (iValOk_any _ _ _ _).mono ?_; rw [hq]; rintro e w1 ⟨rfl, hb⟩; replace hcur := hcur.trans hb; replace hc := hcur.same; clear hb)
    go_ret
    exact ⟨by rw [text_bad hq]; rfl, gW.trans hcur⟩
  | true =>
    rcases ok_cases hq with rfl | ⟨n, n0, n1, rfl⟩ | ⟨s, hs, rfl⟩
    · clear hq
      go_wp2_with (go_at_call 67; refine (iValOk_any _ _ _ _).mono ?_; rw [HQ.out]; rintro e w1 ⟨rfl, hb⟩; replace hcur := hcur.trans hb; replace hc := hcur.same; clear hb)
      go_ret
      exact ⟨by rw [text_zero]; rfl, gW.trans hcur⟩
    · clear hq
      have N0 := Lib.hid n0
      have N1 := Lib.hid n1
      clear n0 n1
      go_wp2_with (first | (go_at_call 67; refine (iValOk_any _ _ _ _).mono ?_; rw [HQ.out]; rintro e w1 ⟨rfl, hb⟩; replace hcur := hcur.trans hb; replace hc := hcur.same; clear hb) | (go_at_call 46; refine (Tryz.strconv_FormatInt_10 n (by have := N0.out; omega) (by have := N1.out; omega) _ (HP.out.grow (gW.trans hcur))).mono ?_; rintro e w1 ⟨rfl, kk, os, rfl⟩; replace hcur := hcur.trans (grow_lib _ kk os)))
      go_ret
      exact ⟨by rw [text_int N0.out N1.out]; rfl, gW.trans hcur⟩
    · clear hq
      go_wp2_with (go_at_call 67; refine (iValOk_any _ _ _ _).mono ?_; rw [HQ.out]; rintro e w1 ⟨rfl, hb⟩; replace hcur := hcur.trans hb; replace hc := hcur.same; clear hb)
      have gB := gW.trans hcur
      have hk := (hcur.same _ 2 sW).trans (kW 2)
      simp only [List.getElem?_toArray, List.getElem?_cons_succ, List.getElem?_cons_zero] at hk
      have sB := Nat.lt_of_lt_of_le sW hcur.size
      obtain ⟨B, hB⟩ : ∃ B, w1.heap.size = B := ⟨_, rfl⟩
      have hfr : Bld B B [] (w1.alloc (.cells #[.pointer none, .slice none 0 0] 82)) := by rw [← hB]; exact Lib.fresh_isBuilder _ _ _
      have HWB := wb_any B B [] 39 _ hfr (Nat.zero_le _) (by rw [← hB]; exact ((Grow.refl w1).alloc _).size)
      rw [hB]
      refine HWB.mono ?_
      rintro e w2 ⟨rfl, h2, g2⟩
      have G2 : Grow w1 w2 := by
        have h1 := (Grow.refl w1).alloc (.cells #[.pointer none, .slice none 0 0] 82)
        exact Below.trans h1 (by rw [hB]; exact g2)
      have k2 := (G2.same _ 2 sB).trans hk
      have s2 := Nat.lt_of_lt_of_le sB G2.size
      clear g2 hfr HWB
      go_wp2
      go_loopw [28] (fun iv wr => ∃ k : Nat, k ≤ s.size ∧ iv = .int .i64 k ∧ Bld B B (39 :: bodyL (s.data.toList.take k)) wr ∧ Grow w1 wr) (fun iv _ => s.size - (intOf iv).toNat)
      case atStart => exact ⟨0, Nat.zero_le _, rfl, h2, G2⟩
      case round =>
        obtain ⟨k, hks, rfl, hbd, hg⟩ := hrel
        have k3 := (hg.same _ 2 sB).trans hk
        have s3 := Nat.lt_of_lt_of_le sB hg.size
        by_cases hlt : k < s.size
        · have i0 : (0 : Int) ≤ (k : Int) := Int.natCast_nonneg k
          have i1 : (k : Int) < (s.size : Int) := Int.ofNat_lt.mpr hlt
          obtain ⟨c, hc⟩ : ∃ c, s[k]'hlt = c := ⟨_, rfl⟩
          have HC := Lib.hid ((byte_at hlt).trans (congrArg some hc))
          have HS := Lib.hid (body_step HC.out)
          obtain ⟨L, hL⟩ : ∃ L, (39 :: bodyL (s.data.toList.take k) : List UInt8) = L := ⟨_, rfl⟩
          have HL := Lib.hid hL
          have hln : Hid (L.length ≤ 40) := Lib.hid (by
            rw [← hL]
            have := body_len (s.data.toList.take k)
            rw [List.length_take] at this
            simp only [List.length_cons]
            omega)
          rw [hL] at hbd
          have HBD := Lib.hid hbd
          clear hL hbd k2 hk
          cases hpb : plainB c with
          | true =>
            have HPB := Lib.hid hpb
            obtain ⟨x1, x2, x3, x4, x5⟩ := esc_plain hpb
            have X := Lib.hid (And.intro x3 (And.intro x4 x5))
            clear hpb x3 x4 x5
            go_wp2_with fail
            refine (contains_any c _ (by omega)).mono ?_
            rintro e w5 ⟨rfl, rfl⟩
            have hno : (c == 39 || (c == 37 || c == 44)) = false := by
              have h := HPB.out
              simp only [plainB, Bool.and_eq_true, Bool.not_eq_true'] at h
              exact h.2.2
            rw [hno]
            clear hno
            have HWB := wb_any B B L c wr HBD.out (Nat.le_trans hln.out (by decide)) (by rw [← hB]; exact hg.size)
            go_wp2_with fail
            refine HWB.mono ?_
            rintro e w6 ⟨rfl, h6, g6⟩
            clear HWB
            go_wp2
            exact ⟨⟨k + 1, by omega, by go_num, by rw [HS.out, ← List.cons_append, HL.out, escL, if_pos HPB.out]; exact h6, (by rw [← hB] at g6; exact Below.trans hg g6)⟩, by simp [intOf]; omega⟩
          | false =>
            have HPB := Lib.hid hpb
            have hH : ∀ q, (hq : q < 16) → (ByteArray.mk #[48, 49, 50, 51, 52, 53, 54, 55, 56, 57, 97, 98, 99, 100, 101, 102])[q]'(by show q < 16; exact hq) = hexD q := hex_at
            obtain ⟨q, hq⟩ : ∃ q, c.toNat / 16 = q := ⟨_, rfl⟩
            obtain ⟨r, hr⟩ : ∃ r, c.toNat % 16 = r := ⟨_, rfl⟩
            have hc256 := c.toNat_lt
            have q1 : q < 16 := by omega
            have r1 : r < 16 := by omega
            have e1 : IntKind.u8.wrap ((c.toNat : Int) / 16) = (q : Int) := by rw [show (c.toNat : Int) / 16 = q by omega]; exact IntWalk.u8_in _ (by omega)
            have e3 : (c.toNat : Int).tmod 16 = (r : Int) := by rw [Int.tmod_eq_emod_of_nonneg (by omega)]; omega
            have HE : Hid (escL c = [37, hexD q, hexD r]) := Lib.hid (by rw [escL, if_neg (by rw [HPB.out]; decide), hq, hr])
            clear hq hr hc256
            rcases esc_cases hpb with x1 | ⟨x1, x2⟩ | ⟨x1, x2, x3⟩ | ⟨x1, x2, x3, x4⟩ | ⟨x1, x2, x3, x4, x5⟩
            all_goals
              clear hpb
              go_wp2_with (go_at_call 70; refine (contains_any c _ (by omega)).mono ?_; rintro e w5 ⟨rfl, rfl⟩; rw [esc_yes HPB.out (by omega) (by omega)])
              have HWB := wb_any B B L 37 wr HBD.out (Nat.le_trans hln.out (by decide)) (by rw [← hB]; exact hg.size)
              refine HWB.mono ?_
              rintro e w6 ⟨rfl, h6, g6⟩
              clear HWB
              go_wp2_with fail
              have b6 : B ≤ w6.heap.size := Nat.le_trans (by rw [← hB]; exact hg.size) g6.size
              refine (wb_any B B (L ++ [37]) (hexD q) w6 h6 (by rw [List.length_append]; exact Nat.le_trans (Nat.add_le_add_right hln.out 1) (by decide)) b6).mono ?_
              rintro e w7 ⟨rfl, h7, g7⟩
              go_wp2_with fail
              have b7 : B ≤ w7.heap.size := Nat.le_trans b6 g7.size
              refine (wb_any B B (L ++ [37] ++ [hexD q]) (hexD r) w7 h7 (by rw [List.length_append, List.length_append]; exact Nat.le_trans (Nat.add_le_add_right (Nat.add_le_add_right hln.out 1) 1) (by decide)) b7).mono ?_
              rintro e w8 ⟨rfl, h8, g8⟩
              have g68 := Below.trans (Below.trans g6 g7) g8
              clear h6 h7 g6 g7 g8
              go_wp2
              exact ⟨⟨k + 1, by omega, by go_num, by rw [HS.out, ← List.cons_append, HL.out, HE.out]; simpa using h8, (by rw [← hB] at g68; exact Below.trans hg g68)⟩, by simp [intOf]; omega⟩
        · obtain rfl : k = s.size := by omega
          have ht : s.data.toList.take s.size = s.data.toList := List.take_of_length_le (Nat.le_refl _)
          rw [ht] at hbd
          have hln : (39 :: bodyL s.data.toList : List UInt8).length ≤ 4000 := by
            have := body_len s.data.toList
            have h2 : s.data.toList.length = s.size := rfl
            simp only [List.length_cons]
            omega
          have HWB := Lib.hid (wb_any B B (39 :: bodyL s.data.toList) 39 wr hbd hln (by rw [← hB]; exact hg.size))
          clear ht hbd hln k2 hk
          go_wp2_with fail
          refine HWB.out.mono ?_
          rintro e w6 ⟨rfl, h6, g6⟩
          have b6 : B ≤ w6.heap.size := Nat.le_trans (by rw [← hB]; exact hg.size) g6.size
          have HST := Lib.hid (Tryz.Builder_String_any B B _ w6 h6 b6)
          clear h6 HWB
          go_wp2_with fail
          refine HST.out.mono ?_
          rintro e w7 ⟨rfl, g7⟩
          have g67 := Below.trans g6 g7
          clear g6 g7 HST
          go_wp2
          go_ret
          refine ⟨?_, gB.trans (by rw [← hB] at g67; exact Below.trans hg g67)⟩
          rw [text_str hs]
          rfl
end Go.Proofs.YtdgmoplfiodahaaGreatDoor
