import Derived.Test.YtdgmoplfiodahaaGreatDoorTextI
import Derived.Test.YtdgmoplfiodahaaGreatDoorApp
import Derived.Deep.DeepCutAuto
import Derived.Deep.CutBlock
/-! The readers of values, walked. -/
namespace Go.Proofs.YtdgmoplfiodahaaGreatDoor
open Go.RowKit
set_option linter.unusedVariables false
set_option linter.unusedSimpArgs false
theorem l1Digit_any (c : UInt8) (w : World) : Calls Tryz.prog 55 #[.int .u8 (c.toNat : Int)] w (Just w (.int .i64 (sHex c : Int))) := by
  have hc := c.toNat_lt
  obtain ⟨k, hk⟩ : ∃ k, c.toNat = k := ⟨_, rfl⟩
  have e0 : sHex c = if 48 ≤ k ∧ k ≤ 57 then k - 48 else if 97 ≤ k ∧ k ≤ 102 then k - 97 + 10 else 16 := by unfold sHex; rw [hk]
  rw [e0, hk]
  rw [hk] at hc
  clear hk e0
  by_cases h1 : 48 ≤ k ∧ k ≤ 57
  · have a1 : (48 : Int) ≤ (k : Int) := by omega
    have a2 : (k : Int) ≤ 57 := by omega
    have e1 : IntKind.u8.wrap ((k : Int) - 48) = ((k - 48 : Nat) : Int) := by rw [IntWalk.u8_in _ (by omega)]; omega
    have e2 : wrap64 ((k - 48 : Nat) : Int) = ((k - 48 : Nat) : Int) := by unfold wrap64; omega
    rw [if_pos h1]
    clear h1 hc
    go_enter Tryz.func55, Tryz.ntmps55
    go_wp2
    go_ret
    exact ⟨ret_int (by omega), rfl⟩
  · rw [if_neg h1]
    by_cases h2 : 97 ≤ k ∧ k ≤ 102
    · have a1 : (97 : Int) ≤ (k : Int) := by omega
      have a2 : (k : Int) ≤ 102 := by omega
      have a3 : ¬ (k : Int) ≤ 57 := by omega
      have e1 : IntKind.u8.wrap ((k : Int) - 97) = ((k - 97 : Nat) : Int) := by rw [IntWalk.u8_in _ (by omega)]; omega
      have e2 : wrap64 (((k - 97 : Nat) : Int) + 10) = ((k - 97 : Nat) : Int) + 10 := by unfold wrap64; omega
      rw [if_pos h2]
      clear h1 h2 hc
      go_enter Tryz.func55, Tryz.ntmps55
      go_wp2
      all_goals go_ret
      all_goals exact ⟨ret_int (by omega), rfl⟩
    · rw [if_neg h2]
      go_enter Tryz.func55, Tryz.ntmps55
      go_wp2
      all_goals (try (exfalso; omega))
      all_goals go_ret
      all_goals exact ⟨rfl, rfl⟩
def negN (l : List UInt8) : Bool := match l with
  | a :: b :: _ => ((a.toNat : Int) == 45) && (((b.toNat : Int) != 48) && ((b.toNat : Int) != 45))
  | _ => false
def badN (l : List UInt8) : Bool := decide (l.length < 1) || (decide (10 < l.length) || (match l with | a :: _ :: _ => (a.toNat : Int) == 48 | _ => false))
theorem u8_beq (c x : UInt8) : (c == x) = ((c.toNat : Int) == (x.toNat : Int)) := by
  rw [Bool.eq_iff_iff, beq_iff_eq, beq_iff_eq]
  exact ⟨fun h => by rw [h], fun h => UInt8.toNat_inj.mp (by omega)⟩
theorem plainNum_eq (l : List UInt8) : plainNum l = if badN l = true then none else digsV 0 l := by
  unfold plainNum badN
  match l with
  | [] => rfl
  | [a] => simp
  | a :: b :: r =>
    have e : (a = 48) ↔ ((a.toNat : Int) == 48) = true := by
      have := u8_beq a 48
      rw [← beq_iff_eq, this]; rfl
    simp only [List.length_cons, List.head?_cons, Option.some.injEq, e, Bool.or_eq_true, decide_eq_true_eq]
    congr 1
    simp
theorem numV_eq (l : List UInt8) : numV l = if negN l = true then (plainNum l.tail).map (fun n => -(n : Int)) else (plainNum l).map (fun n => (n : Int)) := by
  match l with
  | [] => rfl
  | [a] =>
    have : numV [a] = (plainNum [a]).map (fun n => (n : Int)) := by
      unfold numV
      split
      · rename_i h; injection h with h1 h2; cases h2
      · rfl
    rw [this]; rfl
  | a :: b :: r =>
    have e45 : ((a.toNat : Int) == 45) = (a == 45) := (u8_beq a 45).symm
    have f45 : ((b.toNat : Int) == 45) = (b == 45) := (u8_beq b 45).symm
    have f48 : ((b.toNat : Int) == 48) = (b == 48) := (u8_beq b 48).symm
    simp only [negN, bne, e45, f45, f48, List.tail_cons]
    by_cases ha : a = 45
    · subst ha
      simp only [numV]
      by_cases hb : b ≠ 48 ∧ b ≠ 45
      · rw [if_pos hb, if_pos (by simp [hb.1, hb.2])]
      · rw [if_neg hb, if_neg (by intro hx; apply hb; simpa using hx)]
        have : plainNum (45 :: b :: r) = none := by
          unfold plainNum
          split
          · rfl
          · simp [digsV]
        rw [this]; rfl
    · have h1 : numV (a :: b :: r) = (plainNum (a :: b :: r)).map (fun n => (n : Int)) := by
        unfold numV
        split
        · rename_i h; injection h with h _; exact absurd h ha
        · rfl
      rw [h1, if_neg (by simp [ha])]
theorem ix0 {s : ByteArray} {a : UInt8} {r : List UInt8} (h : s.data.toList = a :: r) : ∀ h0 : 0 < s.size, s[0]'h0 = a := fun h0 => by
  have := byte_at h0
  rw [h] at this
  exact (Option.some.inj this).symm
theorem ix1 {s : ByteArray} {a b : UInt8} {r : List UInt8} (h : s.data.toList = a :: b :: r) : ∀ h0 : 1 < s.size, s[1]'h0 = b := fun h0 => by
  have := byte_at h0
  rw [h] at this
  exact (Option.some.inj this).symm
theorem size_list (s : ByteArray) : s.size = s.data.toList.length := rfl
theorem digsV_app (l m : List UInt8) (acc : Nat) : digsV acc (l ++ m) = (digsV acc l).bind fun a => digsV a m := by
  induction l generalizing acc with
  | nil => rfl
  | cons x l ih =>
    simp only [List.cons_append, digsV]
    split
    · exact ih _
    · rfl
theorem digsV_none {l m : List UInt8} {P : Prop} [Decidable P] {x : Option Nat} (h : digsV 0 l = if P then x else none) (hp : ¬ P) : digsV 0 (l ++ m) = none := by
  rw [digsV_app, h, if_neg hp]; rfl
theorem digsV_lt : ∀ (l : List UInt8) (acc n : Nat), digsV acc l = some n → n < (acc + 1) * 10 ^ l.length
  | [], acc, n, h => by simp only [digsV, Option.some.injEq] at h; subst h; simp
  | c :: l, acc, n, h => by
    simp only [digsV] at h
    split at h
    · rename_i hc
      have := digsV_lt l _ n h
      refine Nat.lt_of_lt_of_le this ?_
      rw [List.length_cons, Nat.pow_succ, Nat.mul_comm (10 ^ l.length) 10, ← Nat.mul_assoc]
      exact Nat.mul_le_mul_right _ (by omega)
    · cases h
theorem plainNum_lt (l : List UInt8) : (plainNum l).getD 0 < 10000000000 := by
  unfold plainNum
  split
  · decide
  · rename_i h
    cases hd : digsV 0 l with
    | none => decide
    | some n =>
      have h1 := digsV_lt l 0 n hd
      have h2 : 10 ^ l.length ≤ 10 ^ 10 := Nat.pow_le_pow_right (by decide) (by omega)
      simp only [Option.getD_some]
      have : (10 : Nat) ^ 10 = 10000000000 := by decide
      omega
set_option maxHeartbeats 1000000 in
theorem l1NumPlain (s : ByteArray) (w : World) (hn : negN s.data.toList = false) (hs : s.size ≤ 1048576) :
    Calls Tryz.prog 32 #[.string s] w (Ret w (.tuple #[.int .i64 (((plainNum s.data.toList).getD 0 : Nat) : Int), .bool (plainNum s.data.toList).isSome])) := by
  obtain ⟨l, hl⟩ : ∃ l, s.data.toList = l := ⟨_, rfl⟩
  have HL := Lib.hid hl
  have HN := Lib.hid (hl ▸ hn)
  have HS := Lib.hid hs
  rw [hl]
  clear hl hn hs
  go_enter Tryz.func32, Tryz.ntmps32
  go_upto_region 1 with (fail)
  go_cut [25] from 8 to 25 (fun c wx => c = .bool false ∧ wx = w)
  case first =>
    rcases l with _ | ⟨a, _ | ⟨b, r⟩⟩
    · have hz : s.size = 0 := by rw [size_list, HL.out]; rfl
      go_wp2
      go_meet
      exact ⟨rfl, rfl⟩
    · have hz : s.size = 1 := by rw [size_list, HL.out]; rfl
      go_wp2
      go_meet
      exact ⟨rfl, rfl⟩
    · have i0 := ix0 HL.out
      have i1 := ix1 HL.out
      have z1 : (1 : Int) < (s.size : Int) := by rw [size_list, HL.out]; simp only [List.length_cons]; omega
      have z0 : (0 : Int) < (s.size : Int) := by omega
      have hn := HN.out
      simp only [negN] at hn
      cases h1 : ((a.toNat : Int) == 45)
      · clear hn
        go_wp2
        go_meet
        exact ⟨rfl, rfl⟩
      · cases h2 : ((b.toNat : Int) != 48)
        · clear hn
          go_wp2
          go_meet
          exact ⟨rfl, rfl⟩
        · have h3 : ((b.toNat : Int) != 45) = false := by rw [h1, h2] at hn; simpa using hn
          clear hn
          go_wp2
          go_meet
          exact ⟨rfl, rfl⟩
  case rest =>
    obtain ⟨rfl, rfl⟩ := hcut
    go_upto_region 4 with (fail)
    go_cut [52] from 35 to 52 (fun c wx => c = .bool (badN l) ∧ wx = wc)
    case first =>
      rcases l with _ | ⟨a, _ | ⟨b, r⟩⟩
      · have hz : s.size = 0 := by rw [size_list, HL.out]; rfl
        go_wp2
        go_meet
        exact ⟨rfl, rfl⟩
      · have hz : s.size = 1 := by rw [size_list, HL.out]; rfl
        have i0 := ix0 HL.out
        cases h1 : ((a.toNat : Int) == 48)
        · go_wp2
          go_meet
          exact ⟨rfl, rfl⟩
        · go_wp2
          go_meet
          exact ⟨rfl, rfl⟩
      · have i0 := ix0 HL.out
        have z1 : (1 : Int) < (s.size : Int) := by rw [size_list, HL.out]; simp only [List.length_cons]; omega
        have z0 : (0 : Int) < (s.size : Int) := by omega
        have z2 : ¬ (s.size : Int) < 1 := by omega
        have hl1 : ¬ ((a :: b :: r).length < 1) := by simp
        by_cases h10 : 10 < (a :: b :: r).length
        · have z3 : (10 : Int) < (s.size : Int) := by rw [size_list, HL.out]; omega
          have HB : Hid (badN (a :: b :: r) = true) := Lib.hid (by simp only [badN, h10, decide_true, Bool.true_or, Bool.or_true])
          clear h10 hl1
          go_wp2
          go_meet
          exact ⟨by rw [HB.out], rfl⟩
        · have z3 : ¬ (10 : Int) < (s.size : Int) := by rw [size_list, HL.out]; omega
          have HB : Hid (badN (a :: b :: r) = ((a.toNat : Int) == 48)) := Lib.hid (by simp only [badN, h10, hl1, decide_false, Bool.false_or])
          clear h10 hl1
          cases h1 : ((a.toNat : Int) == 48)
          · go_wp2
            go_meet
            exact ⟨by rw [HB.out, h1], rfl⟩
          · go_wp2
            go_meet
            exact ⟨by rw [HB.out, h1], rfl⟩
    case rest =>
      obtain ⟨rfl, rfl⟩ := hcut
      obtain ⟨bd, hbd⟩ : ∃ b, badN l = b := ⟨_, rfl⟩
      have HB := Lib.hid hbd
      have HP := Lib.hid (plainNum_eq l)
      rw [hbd] at HP ⊢
      clear hbd
      cases bd with
      | true =>
        go_wp2
        exact bodyPost_ret (v := .tuple #[.int .i64 0, .bool false]) (by simp [results, Tryz.results32, go_sem]) rfl ⟨by rw [HP.out]; rfl, Grow.refl _⟩
      | false =>
        have h10 : l.length ≤ 10 := by
          have := HB.out
          simp only [badN, Bool.or_eq_false_iff, decide_eq_false_iff_not] at this
          omega
        have hsl : Hid (s.size = l.length) := Lib.hid (by rw [size_list, HL.out])
        go_wp2
        go_loopw [6, 7] (fun nv iv wr => ∃ k acc : Nat, k ≤ s.size ∧ iv = .int .i64 k ∧ nv = .int .i64 (acc : Int) ∧ Hid (digsV 0 (l.take k) = some acc ∧ acc < 10 ^ k) ∧ wr = wc) (fun _ iv _ => s.size - (intOf iv).toNat)
        case atStart => exact ⟨0, 0, Nat.zero_le _, rfl, rfl, Lib.hid ⟨rfl, by decide⟩, rfl⟩
        case round =>
          obtain ⟨k, acc, hk, rfl, rfl, HR, rfl⟩ := hrel
          by_cases hlt : k < s.size
          · have i0 : (0 : Int) ≤ (k : Int) := Int.natCast_nonneg k
            have i1 : (k : Int) < (s.size : Int) := Int.ofNat_lt.mpr hlt
            obtain ⟨c, hc⟩ : ∃ c, s[k]'hlt = c := ⟨_, rfl⟩
            have HC : Hid (l[k]? = some c) := Lib.hid (by rw [← HL.out, byte_at hlt, hc])
            have HST : Hid (digsV 0 (l.take (k + 1)) = if 48 ≤ c.toNat ∧ c.toNat ≤ 57 then some (10 * acc + (c.toNat - 48)) else none) := Lib.hid (by
              obtain ⟨hkl, he⟩ := List.getElem?_eq_some_iff.mp HC.out
              rw [List.take_succ_eq_append_getElem hkl, he, digsV_append, HR.out.1]; rfl)
            have hk10 : k < 10 := by have := hsl.out; omega
            have hacc : acc < 10000000000 := Nat.lt_of_lt_of_le HR.out.2 (Nat.pow_le_pow_right (n := 10) (by decide) (show k ≤ 10 by omega))
            by_cases hd : 48 ≤ c.toNat ∧ c.toNat ≤ 57
            · obtain ⟨d, hd0⟩ : ∃ d, c.toNat = 48 + d := ⟨c.toNat - 48, by omega⟩
              have hd9 : d ≤ 9 := by omega
              have x1 : ¬ (c.toNat : Int) < 48 := by omega
              have x2 : ¬ (57 : Int) < (c.toNat : Int) := by omega
              have e1 : IntKind.u8.wrap ((c.toNat : Int) - 48) = (d : Int) := by rw [IntWalk.u8_in _ (by omega)]; omega
              have e2 : wrap64 (d : Int) = (d : Int) := by unfold wrap64; omega
              have e3 : wrap64 (10 * (acc : Int)) = 10 * (acc : Int) := by unfold wrap64; omega
              have e4 : wrap64 (10 * (acc : Int) + (d : Int)) = 10 * (acc : Int) + (d : Int) := by unfold wrap64; omega
              have HN2 : Hid (∃ k' acc' : Nat, k' ≤ s.size ∧ Value.int .i64 ((k : Int) + 1) = .int .i64 k' ∧ Value.int .i64 (10 * (acc : Int) + (d : Int)) = .int .i64 (acc' : Int) ∧ Hid (digsV 0 (l.take k') = some acc' ∧ acc' < 10 ^ k') ∧ wr = wr) := Lib.hid ⟨k + 1, 10 * acc + d, hlt, by simp, by simp, Lib.hid ⟨by rw [HST.out, if_pos hd, hd0]; congr 2; omega, by have := HR.out.2; rw [Nat.pow_succ]; omega⟩, rfl⟩
              clear hd hd0 hd9 hacc
              go_wp2
              rw [e4]
              obtain ⟨k', acc', q1, q2, q3, q4, _⟩ := HN2.out
              exact ⟨⟨k', acc', q1, q2, q3, q4, trivial⟩, by simp [intOf]; omega⟩
            · have HF : Hid (plainNum l = none) := Lib.hid (by
                rw [HP.out, if_neg (by decide), ← List.take_append_drop (k + 1) l]
                exact digsV_none HST.out hd)
              clear hacc
              by_cases x1 : (c.toNat : Int) < 48
              · go_wp2
                exact bodyPost_ret (v := .tuple #[.int .i64 0, .bool false]) (by simp [results, Tryz.results32, go_sem]) rfl ⟨by rw [HF.out]; rfl, Grow.refl _⟩
              · have x2 : (57 : Int) < (c.toNat : Int) := by omega
                go_wp2
                exact bodyPost_ret (v := .tuple #[.int .i64 0, .bool false]) (by simp [results, Tryz.results32, go_sem]) rfl ⟨by rw [HF.out]; rfl, Grow.refl _⟩
          · obtain rfl : k = s.size := by omega
            have HF : Hid (plainNum l = some acc) := Lib.hid (by
              rw [HP.out, if_neg (by decide), ← HR.out.1, List.take_of_length_le (by rw [hsl.out]; exact Nat.le_refl _)])
            go_wp2
            exact bodyPost_ret (v := .tuple #[.int .i64 (acc : Int), .bool true]) (by simp [results, Tryz.results32, go_sem]) rfl ⟨by rw [HF.out]; rfl, Grow.refl _⟩
theorem tail_list {s : ByteArray} {a : UInt8} {r : List UInt8} (h : s.data.toList = a :: r) : (s.extract 1 s.size).data.toList = r := by
  rw [ByteArray.data_extract, Array.toList_extract, List.extract_eq_take_drop, h, size_list, h]
  simp
set_option maxHeartbeats 1000000 in
theorem l1Num_any (s : ByteArray) (w : World) (hs : s.size ≤ 1048576) :
    Calls Tryz.prog 32 #[.string s] w (Ret w (.tuple #[.int .i64 ((numV s.data.toList).getD 0), .bool (numV s.data.toList).isSome])) := by
  cases hn : negN s.data.toList with
  | false =>
    refine (l1NumPlain s w hn hs).mono ?_
    rintro e w1 ⟨rfl, hg⟩
    refine ⟨?_, hg⟩
    rw [numV_eq, hn]
    cases plainNum s.data.toList <;> rfl
  | true =>
    obtain ⟨a, b, r, hl⟩ : ∃ a b r, s.data.toList = a :: b :: r := by
      match hm : s.data.toList with
      | [] => rw [hm] at hn; cases hn
      | [a] => rw [hm] at hn; cases hn
      | a :: b :: r => exact ⟨a, b, r, rfl⟩
    have i0 := ix0 hl
    have i1 := ix1 hl
    have z1 : (1 : Int) < (s.size : Int) := by rw [size_list, hl]; simp only [List.length_cons]; omega
    have z0 : (0 : Int) < (s.size : Int) := by omega
    have z2 : (1 : Int) ≤ (s.size : Int) := by omega
    have ht := tail_list hl
    have hbn := hn
    rw [hl] at hbn
    simp only [negN, Bool.and_eq_true] at hbn
    obtain ⟨h1, h2, h3⟩ := hbn
    have hng : negN (s.extract 1 s.size).data.toList = false := by
      rw [ht]
      match r with
      | [] => rfl
      | c :: r' =>
        have : ((b.toNat : Int) == 45) = false := by simpa [bne] using h3
        simp [negN, this]
    have hsz : (s.extract 1 s.size).size ≤ 1048576 := by
      rw [size_list, ht]
      have : s.size = (a :: b :: r).length := by rw [size_list, hl]
      simp only [List.length_cons] at this ⊢
      omega
    have hv : numV s.data.toList = (plainNum (s.extract 1 s.size).data.toList).map (fun n => -(n : Int)) := by rw [numV_eq, hn, ht, hl]; rfl
    have HV := Lib.hid hv
    have HC := Lib.hid (fun w => l1NumPlain (s.extract 1 s.size) w hng hsz)
    obtain ⟨o, ho⟩ : ∃ o, plainNum (s.extract 1 s.size).data.toList = o := ⟨_, rfl⟩
    have HO := Lib.hid ho
    have hsm : Hid (wrap64 (-((o.getD 0 : Nat) : Int)) = -((o.getD 0 : Nat) : Int)) := Lib.hid (by
      have : o.getD 0 < 10000000000 := by rw [← ho]; exact plainNum_lt _
      unfold wrap64; omega)
    clear hn ht hng hsz hv ho hl hs
    go_enter Tryz.func32, Tryz.ntmps32
    go_wp2_with fail
    refine (HC.out _).mono ?_
    rintro e w1 ⟨rfl, hg⟩
    rw [HO.out]
    have hsm2 := hsm.out
    go_wp2
    exact bodyPost_ret (v := .tuple #[.int .i64 (-((o.getD 0 : Nat) : Int)), .bool o.isSome]) (by simp [results, Tryz.results32, go_sem, hsm2]) rfl ⟨by rw [HV.out, HO.out]; cases o <;> rfl, hg⟩
end Go.Proofs.YtdgmoplfiodahaaGreatDoor
