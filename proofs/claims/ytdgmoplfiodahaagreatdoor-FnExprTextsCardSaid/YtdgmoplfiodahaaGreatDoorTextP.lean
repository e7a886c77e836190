import Derived.Test.YtdgmoplfiodahaaGreatDoorVals
import Derived.Lib.ItoaLen
import Derived.Lib.ParseIntBTie
import Derived.Lib.Bytealg
/-! Texts of values, in plain Lean: what is written, and that both readers read it back. -/
namespace Go.Proofs.YtdgmoplfiodahaaGreatDoor
open Go.RowKit
set_option linter.unusedVariables false
set_option linter.unusedSimpArgs false

/-- A digit of sixteen. -/
def hexD (n : Nat) : UInt8 := if n < 10 then UInt8.ofNat (48 + n) else UInt8.ofNat (87 + n)
def hexDigs : List UInt8 := [48, 49, 50, 51, 52, 53, 54, 55, 56, 57, 97, 98, 99, 100, 101, 102]
/-- A byte that stands for itself. -/
def plainB (c : UInt8) : Bool := decide (33 ≤ c.toNat) && (decide (c.toNat ≤ 126) && !(c == 39 || (c == 37 || c == 44)))
def escL (c : UInt8) : List UInt8 := if plainB c = true then [c] else [37, hexD (c.toNat / 16), hexD (c.toNat % 16)]
def bodyL (l : List UInt8) : List UInt8 := l.flatMap escL
def nullL : List UInt8 := [110, 117, 108, 108]
/-- ValText. -/
def textL (v : Val) : List UInt8 := if okB v = true then (if v.kind = 0 then nullL else if v.kind = 1 then Lib.itoa v.n else 39 :: (bodyL v.s.data.toList ++ [39])) else []

def iHex (a : UInt8) : Nat := (Lib.indexByte hexDigs a).toNat
def sHex (a : UInt8) : Nat := if 48 ≤ a.toNat ∧ a.toNat ≤ 57 then a.toNat - 48 else if 97 ≤ a.toNat ∧ a.toNat ≤ 102 then a.toNat - 97 + 10 else 16
/-- What the program reads between quotation marks: of what stands behind the first one. -/
def iRead : List UInt8 → List UInt8
  | [] => []
  | [_] => []
  | [c, _] => [c]
  | c :: a :: b :: r => if c = 37 then UInt8.ofNat (iHex a * 16 + iHex b) :: iRead r else c :: iRead (a :: b :: r)
/-- What the reference reads. -/
def sRead : List UInt8 → List UInt8
  | [] => []
  | [_] => []
  | [c, _] => [c]
  | c :: a :: b :: r => if c = 37 ∧ r ≠ [] ∧ sHex a < 16 ∧ sHex b < 16 then UInt8.ofNat (16 * sHex a + sHex b) :: sRead r else c :: sRead (a :: b :: r)

theorem hexD_iHex : ∀ n : Fin 16, iHex (hexD n.val) = n.val := by decide +kernel
theorem hexD_sHex : ∀ n : Fin 16, sHex (hexD n.val) = n.val := by decide +kernel
theorem byte_back (c : UInt8) : UInt8.ofNat (c.toNat / 16 * 16 + c.toNat % 16) = c := by
  rw [show c.toNat / 16 * 16 + c.toNat % 16 = c.toNat by omega]; exact UInt8.ofNat_toNat
theorem byte_back' (c : UInt8) : UInt8.ofNat (16 * (c.toNat / 16) + c.toNat % 16) = c := by
  rw [show 16 * (c.toNat / 16) + c.toNat % 16 = c.toNat by omega]; exact UInt8.ofNat_toNat
theorem iHex_hi (c : UInt8) : iHex (hexD (c.toNat / 16)) = c.toNat / 16 := hexD_iHex ⟨c.toNat / 16, by have := c.toNat_lt; omega⟩
theorem iHex_lo (c : UInt8) : iHex (hexD (c.toNat % 16)) = c.toNat % 16 := hexD_iHex ⟨c.toNat % 16, by omega⟩
theorem sHex_hi (c : UInt8) : sHex (hexD (c.toNat / 16)) = c.toNat / 16 := hexD_sHex ⟨c.toNat / 16, by have := c.toNat_lt; omega⟩
theorem sHex_lo (c : UInt8) : sHex (hexD (c.toNat % 16)) = c.toNat % 16 := hexD_sHex ⟨c.toNat % 16, by omega⟩
theorem plain_ne37 {c : UInt8} (h : plainB c = true) : c ≠ 37 := by
  rintro rfl; revert h; decide
theorem iRead_plain {c : UInt8} (h : c ≠ 37) (t : List UInt8) (ht : t ≠ []) : iRead (c :: t) = c :: iRead t := by
  match t, ht with
  | [a], _ => rfl
  | [a, b], _ => simp [iRead, h]
  | a :: b :: d :: r, _ => rw [iRead, if_neg h]
theorem sRead_plain {c : UInt8} (h : c ≠ 37) (t : List UInt8) (ht : t ≠ []) : sRead (c :: t) = c :: sRead t := by
  match t, ht with
  | [a], _ => rfl
  | [a, b], _ => simp [sRead, h]
  | a :: b :: d :: r, _ => rw [sRead, if_neg (fun x => h x.1)]
theorem iRead_body : ∀ l : List UInt8, iRead (bodyL l ++ [39]) = l
  | [] => rfl
  | c :: l => by
    have ih := iRead_body l
    show iRead (escL c ++ bodyL l ++ [39]) = c :: l
    unfold escL
    by_cases h : plainB c = true
    · rw [if_pos h]
      show iRead (c :: (bodyL l ++ [39])) = _
      rw [iRead_plain (plain_ne37 h) _ (by simp), ih]
    · rw [if_neg h]
      show iRead (37 :: hexD (c.toNat / 16) :: hexD (c.toNat % 16) :: (bodyL l ++ [39])) = _
      rw [iRead, if_pos rfl, iHex_hi, iHex_lo, byte_back, ih]
theorem sRead_body : ∀ l : List UInt8, sRead (bodyL l ++ [39]) = l
  | [] => rfl
  | c :: l => by
    have ih := sRead_body l
    show sRead (escL c ++ bodyL l ++ [39]) = c :: l
    unfold escL
    by_cases h : plainB c = true
    · rw [if_pos h]
      show sRead (c :: (bodyL l ++ [39])) = _
      rw [sRead_plain (plain_ne37 h) _ (by simp), ih]
    · rw [if_neg h]
      show sRead (37 :: hexD (c.toNat / 16) :: hexD (c.toNat % 16) :: (bodyL l ++ [39])) = _
      have h1 := c.toNat_lt
      rw [sRead, if_pos ⟨rfl, by simp, by rw [sHex_hi]; omega, by rw [sHex_lo]; omega⟩, sHex_hi, sHex_lo, byte_back', ih]

/-! ### Numbers -/
def digsV : Nat → List UInt8 → Option Nat
  | acc, [] => some acc
  | acc, c :: r => if 48 ≤ c.toNat ∧ c.toNat ≤ 57 then digsV (10 * acc + (c.toNat - 48)) r else none
def plainNum (l : List UInt8) : Option Nat := if l.length < 1 ∨ 10 < l.length ∨ (l.head? = some 48 ∧ 1 < l.length) then none else digsV 0 l
/-- l1Num. -/
def numV (l : List UInt8) : Option Int :=
  match l with
  | 45 :: d :: r => if d ≠ 48 ∧ d ≠ 45 then (plainNum (d :: r)).map (fun n => -(n : Int)) else none
  | l => (plainNum l).map (fun n => (n : Int))
theorem digsV_append (acc : Nat) : ∀ (l : List UInt8) (c : UInt8), digsV acc (l ++ [c]) = (digsV acc l).bind fun a => if 48 ≤ c.toNat ∧ c.toNat ≤ 57 then some (10 * a + (c.toNat - 48)) else none := by
  intro l
  induction l generalizing acc with
  | nil => intro c; simp only [List.nil_append, digsV, Option.bind_some]
  | cons x l ih =>
    intro c
    simp only [List.cons_append, digsV]
    split
    · exact ih _ c
    · rfl
theorem digit_toNat {d : Nat} (h : d < 10) : (UInt8.ofNat (48 + d)).toNat = 48 + d := by
  rw [UInt8.toNat_ofNat']; omega
theorem digsV_dec (u : Nat) : digsV 0 (Lib.decDigits u) = some u := by
  induction u using Nat.strongRecOn with
  | _ u ih =>
    by_cases h : u < 10
    · rw [Lib.decDigits_one h]
      simp only [digsV, digit_toNat h]
      rw [if_pos (by omega)]
      congr 1; omega
    · rw [Lib.decDigits, dif_neg h, digsV_append, ih (u / 10) (by omega), Option.bind_some, digit_toNat (by omega), if_pos (by omega)]
      congr 1; omega
theorem parseM_snoc (M : Nat) : ∀ (l : List UInt8) (acc a : Nat) (c : UInt8), Lib.parseUintM M acc l = .ok a → (48 ≤ c.toNat ∧ c.toNat ≤ 57) → ¬ 1844674407370955162 ≤ a → ¬ M < a * 10 + (c.toNat - 48) → Lib.parseUintM M acc (l ++ [c]) = .ok (a * 10 + (c.toNat - 48))
  | [], acc, a, c, h, hc, h1, h2 => by
    simp only [Lib.parseUintM] at h
    injection h with h
    subst h
    simp only [List.nil_append, Lib.parseUintM]
    rw [if_pos hc, if_neg h1, if_neg h2]
  | x :: l, acc, a, c, h, hc, h1, h2 => by
    simp only [List.cons_append, Lib.parseUintM] at h ⊢
    split at h
    · rename_i hx
      rw [if_pos hx]
      split at h
      · cases h
      · rename_i hy
        rw [if_neg hy]
        split at h
        · cases h
        · rename_i hz
          rw [if_neg hz]
          exact parseM_snoc M l _ a c h hc h1 h2
    · cases h
theorem parseM_dec (u : Nat) (hu : u ≤ 1000000000) : Lib.parseUintM 18446744073709551615 0 (Lib.decDigits u) = .ok u := by
  induction u using Nat.strongRecOn with
  | _ u ih =>
    by_cases h : u < 10
    · rw [Lib.decDigits_one h]
      simp only [Lib.parseUintM, digit_toNat h]
      rw [if_pos (by omega), if_neg (by omega), if_neg (by omega)]
      congr 1; omega
    · have hd := digit_toNat (show u % 10 < 10 by omega)
      rw [Lib.decDigits, dif_neg h, parseM_snoc _ _ _ _ _ (ih (u / 10) (by omega) (by omega)) (by rw [hd]; omega) (by omega) (by rw [hd]; omega), hd]
      congr 1; omega
/-- A numeral's first byte is a digit, and no nought if there is another one. -/
theorem dec_head (u : Nat) : ∃ c r, Lib.decDigits u = c :: r ∧ 48 ≤ c.toNat ∧ c.toNat ≤ 57 ∧ (r ≠ [] → c.toNat ≠ 48) := by
  induction u using Nat.strongRecOn with
  | _ u ih =>
    by_cases h : u < 10
    · exact ⟨_, [], Lib.decDigits_one h, by rw [digit_toNat h]; omega, by rw [digit_toNat h]; omega, fun h => absurd rfl h⟩
    · obtain ⟨c, r, h1, h2, h3, h4⟩ := ih (u / 10) (by omega)
      refine ⟨c, r ++ [UInt8.ofNat (48 + u % 10)], by rw [Lib.decDigits, dif_neg h, h1]; rfl, h2, h3, fun _ => ?_⟩
      by_cases h10 : u / 10 < 10
      · rw [Lib.decDigits_one h10] at h1
        injection h1 with h1 _
        rw [← h1, digit_toNat h10]; omega
      · refine h4 fun hr => ?_
        subst hr
        have := congrArg List.length h1
        rw [Lib.decDigits_length, Lib.nDigits_big h10] at this
        have := Lib.nDigits_pos (u / 10 / 10)
        simp at *
        omega
theorem dec_len (u : Nat) (hu : u ≤ 1000000000) : (Lib.decDigits u).length ≤ 10 := by
  rw [Lib.decDigits_length]
  rcases Nat.lt_or_ge (Lib.nDigits u) 11 with h | h
  · omega
  · exfalso
    have h1 : ∀ (k n : Nat), Lib.nDigits n = k + 1 → 10 ^ k ≤ n ∨ n < 10 := by
      intro k
      induction k with
      | zero =>
        intro n _
        rcases Nat.lt_or_ge n 10 with h | h
        · exact .inr h
        · exact .inl (by simp; omega)
      | succ k ih =>
        intro n hn
        rcases Nat.lt_or_ge n 10 with h | h
        · exact .inr h
        · rw [Lib.nDigits_big (by omega)] at hn
          rcases ih (n / 10) (by omega) with h2 | h2
          · exact .inl (by rw [Nat.pow_succ]; omega)
          · rw [Lib.nDigits_small h2] at hn
            obtain rfl : k = 0 := by omega
            exact .inl (by simpa using h)
    rcases h1 (Lib.nDigits u - 1) u (by omega) with h2 | h2
    · have := Nat.pow_le_pow_right (n := 10) (by decide) (show 10 ≤ Lib.nDigits u - 1 by omega)
      have : (10 : Nat) ^ 10 = 10000000000 := by decide
      omega
    · rw [Lib.nDigits_small h2] at h; omega
theorem plainNum_dec (u : Nat) (hu : u ≤ 1000000000) : plainNum (Lib.decDigits u) = some u := by
  obtain ⟨c, r, h1, h2, h3, h4⟩ := dec_head u
  unfold plainNum
  rw [if_neg, digsV_dec]
  rintro (h | h | ⟨h, h'⟩)
  · rw [h1] at h; simp at h
  · have := dec_len u hu; omega
  · rw [h1] at h h'
    simp at h h'
    exact h4 (fun hr => by subst hr; simp at h') (by rw [h]; rfl)
theorem numV_itoa (n : Int) (h0 : -1000000000 ≤ n) (h1 : n ≤ 1000000000) : numV (Lib.itoa n) = some n := by
  by_cases hneg : n < 0
  · obtain ⟨u, rfl⟩ : ∃ u : Nat, n = -(u : Int) := ⟨n.natAbs, by omega⟩
    rw [Lib.itoa_neg u (by omega)]
    have hp := plainNum_dec u (by omega)
    obtain ⟨c, r, e, h2, h3, h4⟩ := dec_head u
    rw [e] at hp ⊢
    have hc0 : c ≠ 48 := by
      intro hc
      by_cases hr : r = []
      · subst hr
        rw [hc] at hp
        have : plainNum [48] = some 0 := by decide
        rw [this] at hp
        simp at hp; omega
      · exact h4 hr (by rw [hc]; rfl)
    have hc5 : c ≠ 45 := by rintro rfl; simp at h2
    simp only [numV]
    rw [if_pos ⟨hc0, hc5⟩, hp]
    rfl
  · obtain ⟨u, rfl⟩ : ∃ u : Nat, n = u := ⟨n.toNat, by omega⟩
    rw [Lib.itoa_nonneg]
    have hp := plainNum_dec u (by omega)
    obtain ⟨c, r, e, h2, h3, h4⟩ := dec_head u
    have hc : c ≠ 45 := by rintro rfl; simp at h2
    rw [e] at hp ⊢
    unfold numV
    split
    · rename_i h; injection h with h _; exact absurd h hc
    · rw [hp]; rfl
/-- What the program makes of ParseInt's answer, whatever it is. -/
def pint (l : List UInt8) : Int := match Lib.parseIntB 64 l with
  | .ok v => v
  | .range => Lib.intSat 64 l
  | _ => 0
theorem pint_itoa (n : Int) (h0 : -1000000000 ≤ n) (h1 : n ≤ 1000000000) : pint (Lib.itoa n) = n := by
  have e64 : (2 : Nat) ^ 64 - 1 = 18446744073709551615 := by decide
  have e63 : (2 : Nat) ^ (64 - 1) = 9223372036854775808 := by decide
  have key : ∀ u : Nat, u ≤ 1000000000 → Lib.parseUintB 64 (Lib.decDigits u) = .ok u := fun u hu => by
    obtain ⟨c, r, e, _⟩ := dec_head u
    unfold Lib.parseUintB
    rw [if_neg (by rw [e]; simp), e64, parseM_dec u hu]
  by_cases hneg : n < 0
  · obtain ⟨u, rfl⟩ : ∃ u : Nat, n = -(u : Int) := ⟨n.natAbs, by omega⟩
    rw [Lib.itoa_neg u (by omega)]
    unfold pint Lib.parseIntB
    have e1 : (45 : UInt8).toNat = 45 := rfl
    simp only [e1, or_true, if_true, key u (by omega), not_true, false_and, if_false, e63, true_and]
    rw [if_neg (by omega)]
  · obtain ⟨u, rfl⟩ : ∃ u : Nat, n = u := ⟨n.toNat, by omega⟩
    rw [Lib.itoa_nonneg]
    have hk := key u (by omega)
    obtain ⟨c, r, e, h2, h3, h4⟩ := dec_head u
    rw [e] at hk ⊢
    unfold pint Lib.parseIntB
    have hc1 : ¬ c.toNat = 43 := by omega
    have hc2 : ¬ c.toNat = 45 := by omega
    simp only [hc1, hc2, or_self, if_false, hk, not_false_iff, true_and, e63, false_and]
    rw [if_neg (by omega)]
/-! ### Values -/
def zeroV : Val := ⟨0, 0, ⟨#[]⟩⟩
def strOf (l : List UInt8) : ByteArray := ⟨l.toArray⟩
/-- What the program holds to be the value of a text, until it has looked whether it is. -/
def iCand (l : List UInt8) : Val := if l = nullL then zeroV else if l.head? = some 39 then ⟨2, 0, strOf (iRead l.tail)⟩ else ⟨1, pint l, ⟨#[]⟩⟩
/-- ReadVal. -/
def readV (l : List UInt8) : Val × Bool := if l ≠ [] ∧ textL (iCand l) = l then (iCand l, true) else (zeroV, false)
theorem strOf_list (s : ByteArray) : strOf s.data.toList = s := by cases s; simp [strOf]
theorem strOf_toList (l : List UInt8) : (strOf l).data.toList = l := by simp [strOf]
theorem empty_of {s : ByteArray} (h : s.toList.isEmpty = true) : s = ⟨#[]⟩ := by
  have h1 : s.size = 0 := by
    rw [ByteArray.toList_eq s] at h
    simp at h
    show s.data.size = 0
    rw [h]; rfl
  cases s with
  | mk d =>
    have : d = #[] := Array.eq_empty_of_size_eq_zero h1
    rw [this]
theorem ok_cases {v : Val} (h : okB v = true) : v = zeroV ∨ (∃ n : Int, -1000000000 ≤ n ∧ n ≤ 1000000000 ∧ v = ⟨1, n, ⟨#[]⟩⟩) ∨ ∃ s : ByteArray, s.size ≤ 12 ∧ v = ⟨2, 0, s⟩ := by
  obtain ⟨k, n, s⟩ := v
  unfold okB at h
  dsimp only at h
  split at h
  · simp only [Bool.and_eq_true, beq_iff_eq] at h
    rename_i hk
    rw [hk, h.1, empty_of h.2]; exact .inl rfl
  · split at h
    · rename_i hk
      simp only [Bool.and_eq_true, decide_eq_true_eq] at h
      rw [hk, empty_of h.2.2]
      exact .inr (.inl ⟨n, h.1, h.2.1, rfl⟩)
    · split at h
      · rename_i hk
        simp only [Bool.and_eq_true, beq_iff_eq, decide_eq_true_eq] at h
        rw [hk, h.1]
        exact .inr (.inr ⟨s, h.2, rfl⟩)
      · cases h
theorem ok_zero : okB zeroV = true := by decide +kernel
theorem ok_int {n : Int} (h0 : -1000000000 ≤ n) (h1 : n ≤ 1000000000) : okB ⟨1, n, ⟨#[]⟩⟩ = true := by
  unfold okB
  have : (ByteArray.mk #[]).toList.isEmpty = true := by decide +kernel
  simp [h0, h1, this]
theorem ok_str {s : ByteArray} (h : s.size ≤ 12) : okB ⟨2, 0, s⟩ = true := by unfold okB; simp [h]
theorem text_zero : textL zeroV = nullL := by unfold textL; rw [if_pos ok_zero]; rfl
theorem text_int {n : Int} (h0 : -1000000000 ≤ n) (h1 : n ≤ 1000000000) : textL ⟨1, n, ⟨#[]⟩⟩ = Lib.itoa n := by
  unfold textL; rw [if_pos (ok_int h0 h1)]; rfl
theorem text_str {s : ByteArray} (h : s.size ≤ 12) : textL ⟨2, 0, s⟩ = 39 :: (bodyL s.data.toList ++ [39]) := by
  unfold textL; rw [if_pos (ok_str h)]; rfl
theorem text_ok {v : Val} (h : textL v ≠ []) : okB v = true := by
  unfold textL at h
  split at h
  · assumption
  · exact absurd rfl h
theorem itoa_head (n : Int) : ∃ c r, Lib.itoa n = c :: r ∧ (c = 45 ∨ (48 ≤ c.toNat ∧ c.toNat ≤ 57)) := by
  unfold Lib.itoa
  split
  · exact ⟨_, _, rfl, .inl rfl⟩
  · obtain ⟨c, r, e, h2, h3, _⟩ := dec_head n.toNat
    exact ⟨c, r, e, .inr ⟨h2, h3⟩⟩
theorem itoa_not (n : Int) : Lib.itoa n ≠ nullL ∧ (Lib.itoa n).head? ≠ some 39 := by
  obtain ⟨c, r, e, h⟩ := itoa_head n
  rw [e]
  constructor
  · intro h'
    injection h' with h1 _
    subst h1
    rcases h with h | h
    · cases h
    · simp at h
  · intro h'
    simp at h'
    subst h'
    rcases h with h | h
    · cases h
    · simp at h
theorem iCand_text {v : Val} (h : okB v = true) : iCand (textL v) = v := by
  rcases ok_cases h with rfl | ⟨n, h0, h1, rfl⟩ | ⟨s, hs, rfl⟩
  · rw [text_zero]; rfl
  · rw [text_int h0 h1]
    unfold iCand
    rw [if_neg (itoa_not n).1, if_neg (itoa_not n).2, pint_itoa n h0 h1]
  · rw [text_str hs]
    unfold iCand
    have hh : (39 :: (bodyL s.data.toList ++ [39]) : List UInt8).head? = some 39 := rfl
    rw [if_neg (by intro h; injection h with h _; cases h), if_pos hh]
    simp only [List.tail_cons]
    rw [iRead_body, strOf_list]
theorem text_ne {v : Val} (h : okB v = true) : textL v ≠ [] := by
  rcases ok_cases h with rfl | ⟨n, h0, h1, rfl⟩ | ⟨s, hs, rfl⟩
  · rw [text_zero]; decide
  · rw [text_int h0 h1]; obtain ⟨c, r, e, _⟩ := itoa_head n; rw [e]; simp
  · rw [text_str hs]; simp
theorem readV_text {v : Val} (h : okB v = true) : readV (textL v) = (v, true) := by
  unfold readV
  rw [iCand_text h, if_pos ⟨text_ne h, rfl⟩]
theorem readV_bad {v : Val} (h : okB v = false) : readV (textL v) = (zeroV, false) := by
  unfold readV textL
  simp [h]
/-- Whoever is a text's value is what is read. -/
theorem readV_of {l : List UInt8} {v : Val} (hl : l ≠ []) (h : textL v = l) : readV l = (v, true) := by
  subst h
  exact readV_text (text_ok hl)
theorem readV_not {l : List UInt8} (h : l = [] ∨ ∀ v, textL v ≠ l) : readV l = (zeroV, false) := by
  unfold readV
  rw [if_neg]
  rintro ⟨h1, h2⟩
  rcases h with h | h
  · exact h1 h
  · exact h _ h2
theorem readV_back {l : List UInt8} {v : Val} (h : readV l = (v, true)) : textL v = l := by
  unfold readV at h
  split at h
  · rename_i h'
    injection h with h _
    rw [← h]; exact h'.2
  · injection h with _ h; cases h
/-- The reference's three roads. -/
theorem readV_null : readV nullL = (zeroV, true) := readV_of (by decide) text_zero
def endsQ (l : List UInt8) : Bool := decide (1 < l.length) && (l.head? == some 39 && l.getLast? == some 39)
theorem sStr_cand {l : List UInt8} (h : l ≠ nullL) (hq : l.head? = some 39) {v : Val} (ht : textL v = l) : v = ⟨2, 0, strOf (sRead l.tail)⟩ := by
  have hne : l ≠ [] := by rintro rfl; cases hq
  have hok := text_ok (v := v) (by rw [ht]; exact hne)
  rcases ok_cases hok with rfl | ⟨n, h0, h1, rfl⟩ | ⟨s, hs, rfl⟩
  · rw [text_zero] at ht; exact absurd ht.symm h
  · rw [text_int h0 h1] at ht; exact absurd (ht ▸ hq) (itoa_not n).2
  · rw [text_str hs] at ht
    subst ht
    simp only [List.tail_cons]
    rw [sRead_body, strOf_list]
theorem readV_str {l : List UInt8} (h : l ≠ nullL) (hq : endsQ l = true) :
    readV l = if textL ⟨2, 0, strOf (sRead l.tail)⟩ = l then (⟨2, 0, strOf (sRead l.tail)⟩, true) else (zeroV, false) := by
  simp only [endsQ, Bool.and_eq_true, decide_eq_true_eq, beq_iff_eq] at hq
  have hne : l ≠ [] := by rintro rfl; simp at hq
  split
  · rename_i ht; exact readV_of hne ht
  · rename_i ht
    exact readV_not (.inr fun v hv => ht (by rw [← sStr_cand h hq.2.1 hv]; exact hv))
theorem text_cases {l : List UInt8} {v : Val} (hl : l ≠ []) (hv : textL v = l) : l = nullL ∨ (endsQ l = true) ∨ ∃ n, numV l = some n ∧ v = ⟨1, n, ⟨#[]⟩⟩ := by
  have hok := text_ok (v := v) (by rw [hv]; exact hl)
  rcases ok_cases hok with rfl | ⟨n, h0, h1, rfl⟩ | ⟨s, hs, rfl⟩
  · exact .inl (by rw [← hv, text_zero])
  · rw [text_int h0 h1] at hv
    exact .inr (.inr ⟨n, by rw [← hv]; exact numV_itoa n h0 h1, rfl⟩)
  · rw [text_str hs] at hv
    refine .inr (.inl ?_)
    subst hv
    have e : (39 :: (bodyL s.data.toList ++ [39]) : List UInt8) = (39 :: bodyL s.data.toList) ++ [39] := rfl
    simp only [endsQ, Bool.and_eq_true, decide_eq_true_eq, beq_iff_eq]
    exact ⟨by simp, rfl, by rw [e, List.getLast?_concat]⟩
theorem readV_num {l : List UInt8} (h : l ≠ nullL) (hq : endsQ l = false) :
    readV l = match numV l with
      | none => (zeroV, false)
      | some n => if textL ⟨1, n, ⟨#[]⟩⟩ = l then (⟨1, n, ⟨#[]⟩⟩, true) else (zeroV, false) := by
  by_cases hl : l = []
  · subst hl; rw [readV_not (.inl rfl)]; rfl
  cases hn : numV l with
  | none =>
    refine readV_not (.inr fun v hv => ?_)
    rcases text_cases hl hv with h' | h' | ⟨n, h', _⟩
    · exact h h'
    · rw [h'] at hq; cases hq
    · rw [h'] at hn; cases hn
  | some n =>
    dsimp only
    split
    · rename_i ht; exact readV_of hl ht
    · rename_i ht
      refine readV_not (.inr fun v hv => ?_)
      rcases text_cases hl hv with h' | h' | ⟨m, h', he⟩
      · exact h h'
      · rw [h'] at hq; cases hq
      · rw [hn] at h'; injection h' with h'; subst h'; exact ht (by rw [← he]; exact hv)
end Go.Proofs.YtdgmoplfiodahaaGreatDoor
