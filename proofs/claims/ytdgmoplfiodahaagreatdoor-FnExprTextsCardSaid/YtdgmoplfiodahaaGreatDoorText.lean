import Derived.Test.YtdgmoplfiodahaaGreatDoorTextP
import Derived.Test.YtdgmoplfiodahaaGreatDoorShelf
import Derived.Test.YtdgmoplfiodahaaGreatDoorLawVals
import Derived.Test.YtdgmoplfiodahaaGreatDoorHeld
import Derived.Lib.ConvBytes
/-! Texts of values, walked. -/
namespace Go.Proofs.YtdgmoplfiodahaaGreatDoor
open Go.RowKit
set_option linter.unusedVariables false
set_option linter.unusedSimpArgs false
theorem strOf_size (l : List UInt8) : (strOf l).size = l.length := by show (l.toArray).size = _; simp
theorem strOf_app (a b : List UInt8) : strOf a ++ strOf b = strOf (a ++ b) := by
  apply ByteArray.ext
  simp [strOf]
theorem hex_piece : ∀ q : Fin 16, ByteArray.extract { data := #[48, 49, 50, 51, 52, 53, 54, 55, 56, 57, 97, 98, 99, 100, 101, 102] } q.val (q.val + 1) = strOf [hexD q.val] := by decide +kernel
theorem hex_ext {q : Nat} (h : q < 16) {a b : Int} (ha : a = q) (hb : b = (q : Int) + 1) : ByteArray.extract { data := #[48, 49, 50, 51, 52, 53, 54, 55, 56, 57, 97, 98, 99, 100, 101, 102] } a.toNat b.toNat = strOf [hexD q] := by
  subst ha hb
  exact hex_piece ⟨q, h⟩
theorem l1Hex_any (k : Nat) (w : World) (hk : k < 256) : Calls Tryz.prog 75 #[.int .u8 k] w (Ret w (.string (strOf [hexD (k / 16), hexD (k % 16)]))) := by
  obtain ⟨q, hq⟩ : ∃ q, k / 16 = q := ⟨_, rfl⟩
  obtain ⟨r, hr⟩ : ∃ r, k % 16 = r := ⟨_, rfl⟩
  have q1 : q < 16 := by omega
  have r1 : r < 16 := by omega
  have e1 : IntKind.u8.wrap ((k : Int) / 16) = (q : Int) := by rw [show (k : Int) / 16 = q by omega]; exact IntWalk.u8_in _ (by omega)
  have e2 : IntKind.u8.wrap ((q : Int) + 1) = (q : Int) + 1 := IntWalk.u8_in _ (by omega)
  have e3 : (k : Int).tmod 16 = (r : Int) := by rw [Int.tmod_eq_emod_of_nonneg (by omega)]; omega
  have e4 : IntKind.u8.wrap ((r : Int) + 1) = (r : Int) + 1 := IntWalk.u8_in _ (by omega)
  have q2 : (q : Int) + 1 ≤ 16 := by omega
  have q3 : (q : Int) ≤ (q : Int) + 1 := by omega
  have q4 : (0 : Int) ≤ (q : Int) := by omega
  have q5 : (0 : Int) ≤ (q : Int) + 1 := by omega
  have r2 : (r : Int) + 1 ≤ 16 := by omega
  have r3 : (r : Int) ≤ (r : Int) + 1 := by omega
  have r4 : (0 : Int) ≤ (r : Int) := by omega
  have r5 : (0 : Int) ≤ (r : Int) + 1 := by omega
  rw [hq, hr]
  clear hq hr
  go_enter Tryz.func75, Tryz.ntmps75
  go_wp2
  refine wp_region_held_drew (S := (fun w' => Grow w w' ∧ Same w w')) (by kernel_rfl) (by exact Grow.both (by repeat (with_reducible first | exact Grow.refl _ | assumption | refine Grow.drew ?_ | refine Grow.alloc ?_ _ | refine Grow.set ?_ (by first | exact Nat.le_refl _ | (simp; done) | (simp; omega) | omega) _ | exact And.left (by assumption) | refine Grow.trans ?_ (by assumption)))) (fun hHeld => ?_)
  ((refine held_take (i := 0) 3 (v := ?_) rfl rfl (by kernel_rfl) (by kernel_rfl) (by kernel_rfl) (fun _ _ _ h => h) (by kernel_rfl) ?_ (by assumption) ?_; rotate_left 1; (focus (intro w hSw; (try dsimp only at hSw); go_simp; (try with_reducible rfl); done)); all_goals (try simp only [Act.put, List.setIfInBounds_toArray, List.set_cons_zero, List.set_cons_succ])); (refine held_take (i := 1) 4 (v := ?_) rfl rfl (by kernel_rfl) (by kernel_rfl) (by kernel_rfl) (fun _ _ _ h => h) (by kernel_rfl) ?_ (by assumption) ?_; rotate_left 1; (focus (intro w hSw; (try dsimp only at hSw); go_simp; (try with_reducible rfl); done)); all_goals (try simp only [Act.put, List.setIfInBounds_toArray, List.set_cons_zero, List.set_cons_succ])); (refine held_take (i := 2) 5 (v := ?_) rfl rfl (by kernel_rfl) (by kernel_rfl) (by kernel_rfl) (fun _ _ _ h => h) (by kernel_rfl) ?_ (by assumption) ?_; rotate_left 1; (focus (intro w hSw; (try dsimp only at hSw); go_simp; (try with_reducible rfl); done)); all_goals (try simp only [Act.put, List.setIfInBounds_toArray, List.set_cons_zero, List.set_cons_succ])); (refine held_take (i := 3) 6 (v := ?_) rfl rfl (by kernel_rfl) (by kernel_rfl) (by kernel_rfl) (fun _ _ _ h => h) (by kernel_rfl) ?_ (by assumption) ?_; rotate_left 1; (focus (intro w hSw; (try dsimp only at hSw); go_simp; (try with_reducible rfl); done)); all_goals (try simp only [Act.put, List.setIfInBounds_toArray, List.set_cons_zero, List.set_cons_succ])); (refine held_take (i := 4) 7 (v := ?_) rfl rfl (by kernel_rfl) (by kernel_rfl) (by kernel_rfl) (fun _ _ _ h => h) (by kernel_rfl) ?_ (by assumption) ?_; rotate_left 1; (focus (intro w hSw; (try dsimp only at hSw); go_simp; (try with_reducible rfl); done)); all_goals (try simp only [Act.put, List.setIfInBounds_toArray, List.set_cons_zero, List.set_cons_succ])))
  (refine held_take (i := 5) 8 (v := .string (strOf [hexD q])) rfl rfl (by kernel_rfl) (by kernel_rfl) (by kernel_rfl) (fun _ _ _ h => h) (by kernel_rfl) ?_ (by assumption) ?_; (focus (intro w hSw; (try dsimp only at hSw); go_simp; exact hex_piece ⟨q, q1⟩)); all_goals (try simp only [Act.put, List.setIfInBounds_toArray, List.set_cons_zero, List.set_cons_succ]))
  ((refine held_take (i := 6) 9 (v := ?_) rfl rfl (by kernel_rfl) (by kernel_rfl) (by kernel_rfl) (fun _ _ _ h => h) (by kernel_rfl) ?_ (by assumption) ?_; rotate_left 1; (focus (intro w hSw; (try dsimp only at hSw); go_simp; (try with_reducible rfl); done)); all_goals (try simp only [Act.put, List.setIfInBounds_toArray, List.set_cons_zero, List.set_cons_succ])); (refine held_take (i := 7) 10 (v := ?_) rfl rfl (by kernel_rfl) (by kernel_rfl) (by kernel_rfl) (fun _ _ _ h => h) (by kernel_rfl) ?_ (by assumption) ?_; rotate_left 1; (focus (intro w hSw; (try dsimp only at hSw); go_simp; (try with_reducible rfl); done)); all_goals (try simp only [Act.put, List.setIfInBounds_toArray, List.set_cons_zero, List.set_cons_succ])); (refine held_take (i := 8) 11 (v := ?_) rfl rfl (by kernel_rfl) (by kernel_rfl) (by kernel_rfl) (fun _ _ _ h => h) (by kernel_rfl) ?_ (by assumption) ?_; rotate_left 1; (focus (intro w hSw; (try dsimp only at hSw); go_simp; (try with_reducible rfl); done)); all_goals (try simp only [Act.put, List.setIfInBounds_toArray, List.set_cons_zero, List.set_cons_succ])); (refine held_take (i := 9) 12 (v := ?_) rfl rfl (by kernel_rfl) (by kernel_rfl) (by kernel_rfl) (fun _ _ _ h => h) (by kernel_rfl) ?_ (by assumption) ?_; rotate_left 1; (focus (intro w hSw; (try dsimp only at hSw); go_simp; (try with_reducible rfl); done)); all_goals (try simp only [Act.put, List.setIfInBounds_toArray, List.set_cons_zero, List.set_cons_succ])); (refine held_take (i := 10) 13 (v := ?_) rfl rfl (by kernel_rfl) (by kernel_rfl) (by kernel_rfl) (fun _ _ _ h => h) (by kernel_rfl) ?_ (by assumption) ?_; rotate_left 1; (focus (intro w hSw; (try dsimp only at hSw); go_simp; (try with_reducible rfl); done)); all_goals (try simp only [Act.put, List.setIfInBounds_toArray, List.set_cons_zero, List.set_cons_succ])))
  (refine held_take (i := 11) 14 (v := .string (strOf [hexD r])) rfl rfl (by kernel_rfl) (by kernel_rfl) (by kernel_rfl) (fun _ _ _ h => h) (by kernel_rfl) ?_ (by assumption) ?_; (focus (intro w hSw; (try dsimp only at hSw); go_simp; exact hex_piece ⟨r, r1⟩)); all_goals (try simp only [Act.put, List.setIfInBounds_toArray, List.set_cons_zero, List.set_cons_succ]))
  (refine held_take (i := 12) 15 (v := .string (strOf [hexD q, hexD r])) rfl rfl (by kernel_rfl) (by kernel_rfl) (by kernel_rfl) (fun _ _ _ h => h) (by kernel_rfl) ?_ (by assumption) ?_; (focus (intro w hSw; (try dsimp only at hSw); go_simp; rw [if_neg (by rw [strOf_size, strOf_size]; simp), strOf_app]; rfl)); all_goals (try simp only [Act.put, List.setIfInBounds_toArray, List.set_cons_zero, List.set_cons_succ]))
  ((refine held_take (i := 13) 2 (v := ?_) rfl rfl (by kernel_rfl) (by kernel_rfl) (by kernel_rfl) (fun _ _ _ h => h) (by kernel_rfl) ?_ (by assumption) ?_; rotate_left 1; (focus (intro w hSw; (try dsimp only at hSw); go_simp; (try with_reducible rfl); done)); all_goals (try simp only [Act.put, List.setIfInBounds_toArray, List.set_cons_zero, List.set_cons_succ])))
  refine wpAnyH_done (by kernel_rfl) ?_ _
  go_wp2
  go_ret
  exact ⟨rfl, (Grow.refl _).drew⟩
theorem byte_str (w : World) (x : Int) (d : Nat) (c : UInt8) (hx : x = (d : Int)) (hd : d < 256) (hc : UInt8.ofNat d = c) : (convert 28 9 (.slice (some ⟨w.heap.size, 0, none⟩) 1 1)).run Tryz.prog (w.alloc (.cells #[.int .u8 x] 5)) =
    .ok (.string (strOf [c])) (w.alloc (.cells #[.int .u8 x] 5)) := by
  subst hx hc
  refine run_convert_bytes_back _ _ _ _ ⟨w.heap.size, 0, none⟩ 1 [UInt8.ofNat d] Tryz.underlying28 Tryz.underlying5 Tryz.underlying9 (fun j hj => ?_)
  obtain rfl : j = 0 := by simpa using hj
  have : (⟨w.heap.size, 0, none⟩ : Addr).add 0 = ⟨w.heap.size, 0, none⟩ := rfl
  rw [this]
  have e : (UInt8.ofNat d).toNat = d := by rw [UInt8.toNat_ofNat']; omega
  simp [e]
theorem dec_meas {y m : Int} {u : Nat} {c : UInt8} {l : List UInt8} (h : y.natAbs = u / 10) (hu : m.natAbs = u) (hl : l = [] ∨ u ≠ 0) :
    y.natAbs * 2 + (if (strOf [c] ++ strOf l).data.toList = [] then 1 else 0) < m.natAbs * 2 + (if (strOf l).data.toList = [] then 1 else 0) := by
  rw [strOf_app, strOf_toList, strOf_toList, if_neg (by simp), h, hu]
  rcases hl with rfl | hl
  · rw [if_pos rfl]; omega
  · omega
theorem dec_step {N u : Nat} {l : List UInt8} (h : Lib.decDigits N = Lib.decDigits u ++ l) : (u / 10 = 0 → Lib.decDigits N = UInt8.ofNat (48 + u % 10) :: l) ∧ (u / 10 ≠ 0 → Lib.decDigits N = Lib.decDigits (u / 10) ++ (UInt8.ofNat (48 + u % 10) :: l)) := by
  constructor
  · intro hu
    have hlt : u < 10 := by omega
    rw [h, Lib.decDigits_one hlt, Nat.mod_eq_of_lt hlt]; rfl
  · intro hu
    rw [h, Lib.decDigits.eq_1 u, dif_neg (by omega)]; simp
theorem dig_facts {d : Nat} (hd : d < 10) : wrap64 (48 + (d : Int)) = 48 + (d : Int) ∧ (48 + (d : Int)) % 256 = 48 + (d : Int) ∧ wrap64 (d : Int) = d := by
  refine ⟨?_, Int.emod_eq_of_lt (by omega) (by omega), ?_⟩ <;> (unfold wrap64; omega)
theorem cat_fits (a b : List UInt8) (ha : a.length ≤ 1000) (hb : b.length ≤ 1000) : ¬ (9223372036854775807 < (strOf a).size + (strOf b).size) := by rw [strOf_size, strOf_size]; omega
theorem tdiv_sign {m : Int} {u : Nat} (hu : m.natAbs = u) : (m.tdiv 10).natAbs = u / 10 ∧ (m ≤ 0 → m.tdiv 10 ≤ 0) ∧ (0 ≤ m → 0 ≤ m.tdiv 10) ∧ ((m.tmod 10 = -((u % 10 : Nat) : Int) ∧ m ≤ 0) ∨ (m.tmod 10 = ((u % 10 : Nat) : Int) ∧ 0 ≤ m)) := by
  rcases Int.natAbs_eq m with h | h
  · rw [hu] at h
    subst h
    refine ⟨by rw [Int.natAbs_tdiv, Int.natAbs_natCast]; rfl, fun h => ?_, fun _ => Int.tdiv_nonneg (by omega) (by decide), .inr ⟨rfl, by omega⟩⟩
    obtain rfl : u = 0 := by omega
    decide
  · rw [hu] at h
    subst h
    refine ⟨by rw [Int.natAbs_tdiv, Int.natAbs_neg, Int.natAbs_natCast]; rfl, fun h => ?_, fun h => ?_, .inl ⟨by rw [Int.neg_tmod]; rfl, by omega⟩⟩
    · rw [Int.neg_tdiv]; have : 0 ≤ (u : Int).tdiv 10 := Int.tdiv_nonneg (by omega) (by decide); omega
    · obtain rfl : u = 0 := by omega
      decide
theorem wrap_small {y : Int} (h : y.natAbs ≤ 1000000000) : wrap64 y = y := by unfold wrap64; omega
theorem div_fits {y m : Int} {u : Nat} (h : y.natAbs = u / 10) (hu : m.natAbs = u) (hm : m.natAbs ≤ 1000000000) : y.natAbs ≤ 1000000000 := by rw [hu] at hm; rw [h]; exact Nat.le_trans (Nat.div_le_self _ _) hm
theorem strOf_cons_ne (c : UInt8) (l : List UInt8) : (strOf (c :: l)).toList.isEmpty = false := by rw [ByteArray.toList_eq, strOf_toList]; rfl
theorem strOf_nil_e : (strOf []).toList.isEmpty = true := by rw [ByteArray.toList_eq, strOf_toList]; rfl
set_option maxRecDepth 20000 in
theorem l1Dec_any (n : Int) (w : World) (h0 : -1000000000 ≤ n) (h1 : n ≤ 1000000000) : Calls Tryz.prog 53 #[.int .i64 n] w (Ret w (.string (strOf (Lib.itoa n)))) := by
  have H0 := Lib.hid h0
  have H1 := Lib.hid h1
  have HL : Hid ((Lib.decDigits n.natAbs).length ≤ 10) := Lib.hid (dec_len _ (by omega))
  clear h0 h1
  go_enter Tryz.func53, Tryz.ntmps53
  go_wp2
  go_loopw [0, 4] (fun mv sv wr => ∃ (m : Int) (l : List UInt8), mv = .int .i64 m ∧ sv = .string (strOf l) ∧ Grow w wr ∧ m.natAbs ≤ 1000000000 ∧ (n < 0 → m ≤ 0) ∧ (0 ≤ n → 0 ≤ m) ∧
    Hid ((l ≠ [] ∧ m = 0 ∧ Lib.decDigits n.natAbs = l) ∨ ((l = [] ∨ m ≠ 0) ∧ Lib.decDigits n.natAbs = Lib.decDigits m.natAbs ++ l))) (fun mv sv _ => (intOf mv).natAbs * 2 + (match sv with | .string s => if s.data.toList = [] then 1 else 0 | _ => 0))
  case atStart => exact ⟨n, [], rfl, rfl, Grow.refl _, by have := H0.out; have := H1.out; omega, by omega, by omega, Lib.hid (.inr ⟨.inl rfl, by simp⟩)⟩
  case round =>
    obtain ⟨m, l, rfl, rfl, hg, hm, hn, hp, HR⟩ := hrel
    by_cases hgo : l ≠ [] ∧ m = 0
    · obtain ⟨hl, rfl⟩ := hgo
      obtain ⟨c, l, rfl⟩ : ∃ c r, l = c :: r := by cases l with | nil => exact absurd rfl hl | cons c r => exact ⟨c, r, rfl⟩
      have hd : Hid (Lib.decDigits n.natAbs = c :: l) := Lib.hid (by
        rcases HR.out with h | h
        · exact h.2.2
        · rcases h.1 with h1 | h1
          · cases h1
          · exact absurd rfl h1)
      have e1 := strOf_cons_ne c l
      have hsz : (strOf (c :: l)).size ≤ 10 := by rw [strOf_size]; have := hd.out; have := HL.out; rw [hd.out] at this; exact this
      clear HR hm hn hp hl
      by_cases hneg : n < 0
      · go_wp2
        go_ret
        refine ⟨?_, hg⟩
        rw [Lib.itoa, if_pos hneg, hd.out]
        show Ending.returned (.string (strOf [45] ++ strOf (c :: l))) = _
        rw [strOf_app]; rfl
      · go_wp2
        go_ret
        refine ⟨?_, hg⟩
        rw [Lib.itoa, if_neg (by omega)]
        have : n.toNat = n.natAbs := by omega
        rw [this, hd.out]
        rfl
    · have hR : (l = [] ∨ m ≠ 0) ∧ Lib.decDigits n.natAbs = Lib.decDigits m.natAbs ++ l := by
        rcases HR.out with h | h
        · exact absurd ⟨h.1, h.2.1⟩ hgo
        · exact h
      obtain ⟨u, hu⟩ : ∃ u, m.natAbs = u := ⟨_, rfl⟩
      obtain ⟨d, hd⟩ : ∃ d, u % 10 = d := ⟨_, rfl⟩
      have hd10 : d < 10 := by omega
      have hlen : l.length ≤ 10 := by
        have := congrArg List.length hR.2
        rw [List.length_append] at this
        have := HL.out
        omega
      obtain ⟨c, hc⟩ : ∃ c, UInt8.ofNat (48 + d) = c := ⟨_, rfl⟩
      have hst := dec_step hR.2
      rw [hu, hd, hc] at hst
      have HST := Lib.hid hst
      obtain ⟨t1, t2, t3, t4⟩ := tdiv_sign hu
      rw [hd] at t4
      obtain ⟨y, hy⟩ : ∃ y : Int, m.tdiv 10 = y := ⟨_, rfl⟩
      rw [hy] at t1 t2 t3
      have hyu := t1
      have hy1 : n < 0 → y ≤ 0 := fun h => t2 (hn h)
      have hy2 : 0 ≤ n → 0 ≤ y := fun h => t3 (hp h)
      have hlu : l = [] ∨ u ≠ 0 := by
        rcases hR.1 with h | h
        · exact .inl h
        · exact .inr (by omega)
      clear t2 t3
      obtain ⟨e4, e5, e6⟩ := dig_facts hd10
      have hwy : wrap64 y = y := wrap_small (div_fits t1 hu hm)
      have HCAT := Lib.hid (cat_fits [c] l (by simp) (Nat.le_trans hlen (by decide)))
      have HCV := Lib.hid (byte_str wr (48 + (d : Int)) (48 + d) c rfl (Nat.lt_of_lt_of_le (Nat.add_lt_add_left hd10 48) (by decide)) hc)
      have HY1 := Lib.hid hy1
      have HY2 := Lib.hid hy2
      have HYU := Lib.hid hyu
      have HLU := Lib.hid hlu
      have HB := Lib.hid (div_fits t1 hu hm)
      have HM := Lib.hid hm
      clear t1 hm
      have hfin : ∀ w', Grow wr w' → Hid (∃ (m' : Int) (l' : List UInt8), Value.int .i64 y = .int .i64 m' ∧ Value.string (strOf [c] ++ strOf l) = .string (strOf l') ∧ Grow w w' ∧ m'.natAbs ≤ 1000000000 ∧ (n < 0 → m' ≤ 0) ∧ (0 ≤ n → 0 ≤ m') ∧
          Hid ((l' ≠ [] ∧ m' = 0 ∧ Lib.decDigits n.natAbs = l') ∨ ((l' = [] ∨ m' ≠ 0) ∧ Lib.decDigits n.natAbs = Lib.decDigits m'.natAbs ++ l'))) := fun w' hw => Lib.hid ⟨y, c :: l, rfl, by rw [strOf_app]; rfl, hg.trans hw, HB.out, hy1, hy2, Lib.hid (by
        by_cases h0 : u / 10 = 0
        · exact .inl ⟨List.cons_ne_nil _ _, Int.natAbs_eq_zero.mp (hyu.trans h0), hst.1 h0⟩
        · exact .inr ⟨.inr (fun hy0 => h0 (by rw [← hyu, hy0]; rfl)), by rw [hyu]; exact hst.2 h0⟩)⟩
      have HF := Lib.hid hfin
      have HU := Lib.hid hu
      clear HR hR hst hy1 hy2 hyu hlu hfin hn hp hlen hu hd
      have HC := Lib.hid hc
      clear hc
      have hsw : ((strOf l).toList.isEmpty || m != 0) = true := by
        rcases HLU.out with h | h
        · subst h; rw [strOf_nil_e]; rfl
        · have : m ≠ 0 := by have := HU.out; omega
          simp [this]
      have hcat := HCAT.out
      rcases t4 with ⟨e7, hm0⟩ | ⟨e7, hm0⟩
      · by_cases hd0 : d = 0
        · subst hd0
          have hcv := byte_str wr 48 48 c rfl (by decide) HC.out
          clear HCV e4 e5 e6
          go_wp2
          all_goals
            rw [hwy]
            exact ⟨(HF.out _ ((Grow.refl _).alloc _)).out, dec_meas HYU.out HU.out HLU.out⟩
        · have hcv := HCV.out
          have hd1 : ¬ (0 : Int) ≤ -(d : Int) := by omega
          go_wp2
          all_goals
            rw [hwy]
            exact ⟨(HF.out _ ((Grow.refl _).alloc _)).out, dec_meas HYU.out HU.out HLU.out⟩
      · have hcv := HCV.out
        have hd1 : (0 : Int) ≤ (d : Int) := by omega
        go_wp2
        all_goals
          rw [hwy]
          exact ⟨(HF.out _ ((Grow.refl _).alloc _)).out, dec_meas HYU.out HU.out HLU.out⟩
end Go.Proofs.YtdgmoplfiodahaaGreatDoor
