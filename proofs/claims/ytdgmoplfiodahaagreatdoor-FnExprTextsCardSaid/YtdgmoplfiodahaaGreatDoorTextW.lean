import Derived.Test.YtdgmoplfiodahaaGreatDoorTextV
/-! ReadVal of the reference and of the program, walked. -/
namespace Go.Proofs.YtdgmoplfiodahaaGreatDoor
open Go.RowKit
set_option linter.unusedVariables false
set_option linter.unusedSimpArgs false
theorem l1StrW_any (s : ByteArray) (w : World) : Calls Tryz.prog 56 #[.string s] w (Ret w (.agg #[.int .i64 2, .int .i64 0, .string s])) := by
  go_enter Tryz.func56, Tryz.ntmps56
  go_wp2
  exact bodyPost_ret (v := .agg #[.int .i64 2, .int .i64 0, .string s]) (by simp [results, Tryz.results56, go_sem]) rfl ⟨rfl, (Grow.refl _).alloc _⟩
theorem l1IntW_any (n : Int) (w : World) : Calls Tryz.prog 57 #[.int .i64 n] w (Ret w (.agg #[.int .i64 1, .int .i64 n, .string ⟨#[]⟩])) := by
  go_enter Tryz.func57, Tryz.ntmps57
  go_wp2
  exact bodyPost_ret (v := .agg #[.int .i64 1, .int .i64 n, .string ⟨#[]⟩]) (by simp [results, Tryz.results57, go_sem]) rfl ⟨rfl, (Grow.refl _).alloc _⟩
/-- What ReadVal hands back. -/
def ReadRes (w : World) (r : Val × Bool) (e : Ending) (w' : World) : Prop := Ret w (.tuple #[.agg #[.int .i64 r.1.kind, .int .i64 r.1.n, .string r.1.s], .bool r.2]) e w'
theorem str_nullL {s : ByteArray} : (s.toList == [110, 117, 108, 108]) = decide (s.data.toList = nullL) := by
  rw [ByteArray.toList_eq, Bool.eq_iff_iff, beq_iff_eq, decide_eq_true_eq]; rfl
theorem endsQ_short {l : List UInt8} (h : l.length ≤ 1) : endsQ l = false := by simp [endsQ]; omega
theorem endsQ_head {l : List UInt8} {c : UInt8} (h : l[0]? = some c) (hc : ((c.toNat : Int) == 39) = false) : endsQ l = false := by
  have : (c == 39) = false := by rw [u8_beq]; exact hc
  simp only [endsQ, List.head?_eq_getElem?, h]
  simp only [beq_eq_false_iff_ne, ne_eq] at this
  simp [this]
theorem endsQ_last {l : List UInt8} {c d : UInt8} (h1 : 1 < l.length) (h : l[0]? = some c) (hc : ((c.toNat : Int) == 39) = true) (h2 : l[l.length - 1]? = some d) : endsQ l = ((d.toNat : Int) == 39) := by
  have e1 : (c == 39) = true := by rw [u8_beq]; exact hc
  have e2 : (d == 39) = ((d.toNat : Int) == 39) := u8_beq d 39
  rw [beq_iff_eq] at e1
  rw [← e2]
  simp only [endsQ, List.head?_eq_getElem?, List.getLast?_eq_getElem?, h, h2, h1, e1]
  simp
/-- The reference's test on three bytes. -/
def sEsc (l : List UInt8) : Bool := match l with
  | c :: a :: b :: _ :: _ => ((c.toNat : Int) == 37) && (decide (sHex a < 16) && decide (sHex b < 16))
  | _ => false
theorem sRead_else {c : UInt8} {t : List UInt8} (ht : t ≠ []) (h : sEsc (c :: t) = false) : sRead (c :: t) = c :: sRead t := by
  have h37 : (c = 37) ↔ ((c.toNat : Int) == 37) = true := by rw [← beq_iff_eq, u8_beq c 37]; rfl
  match t, ht with
  | [a], _ => rfl
  | [a, b], _ => simp [sRead]
  | a :: b :: d :: r, _ =>
    rw [sRead, if_neg]
    rintro ⟨h1, _, h2, h3⟩
    simp [sEsc, h37.mp h1, h2, h3] at h
theorem sRead_esc {c a b : UInt8} {r : List UInt8} (h : sEsc (c :: a :: b :: r) = true) : sRead (c :: a :: b :: r) = UInt8.ofNat (16 * sHex a + sHex b) :: sRead r := by
  have h37 : (c = 37) ↔ ((c.toNat : Int) == 37) = true := by rw [← beq_iff_eq, u8_beq c 37]; rfl
  match r with
  | [] => simp [sEsc] at h
  | d :: r =>
    simp only [sEsc, Bool.and_eq_true, decide_eq_true_eq] at h
    rw [sRead, if_pos ⟨h37.mpr h.1, by simp, h.2.1, h.2.2⟩]
theorem sEsc_no {c : UInt8} {t : List UInt8} (h : ((c.toNat : Int) == 37) = false) : sEsc (c :: t) = false := by
  unfold sEsc
  split
  · rename_i e; injection e with e1 _; subst e1; simp [h]
  · rfl
theorem sEsc_short {l : List UInt8} (h : l.length ≤ 3) : sEsc l = false := by
  match l, h with
  | [], _ => rfl
  | [_], _ => rfl
  | [_, _], _ => rfl
  | [_, _, _], _ => rfl
  | _ :: _ :: _ :: _ :: _, h => simp at h
theorem sEsc_long {c a b : UInt8} {r : List UInt8} (hc : ((c.toNat : Int) == 37) = true) (hr : r ≠ []) : sEsc (c :: a :: b :: r) = (decide (sHex a < 16) && decide (sHex b < 16)) := by
  match r, hr with
  | d :: r, _ => simp [sEsc, hc]
theorem sx_facts {k : Nat} (h : k < 2000000) : wrap64 ((k : Int) + 1) = (k : Int) + 1 ∧ wrap64 ((k : Int) + 2) = (k : Int) + 2 ∧ wrap64 ((k : Int) + 3) = (k : Int) + 3 ∧ wrap64 ((k : Int) + 2 + 1) = (k : Int) + 2 + 1 ∧
    IntKind.i64.wrap ((k : Int) + 1) = (k : Int) + 1 ∧ IntKind.i64.wrap ((k : Int) + 2) = (k : Int) + 2 ∧ ((k : Int) + 1).toNat = k + 1 ∧ ((k : Int) + 2).toNat = k + 2 := by
  refine ⟨?_, ?_, ?_, ?_, IntWalk.i64_in _ (by omega), IntWalk.i64_in _ (by omega), by omega, by omega⟩ <;> (unfold wrap64; omega)
theorem sesc_facts {qa qb : Nat} {d : UInt8} (ha : qa < 16) (hb : qb < 16) (hd : d.toNat = 16 * qa + qb) : IntKind.i64.wrap (16 * (qa : Int)) = 16 * (qa : Int) ∧ IntKind.i64.wrap (16 * (qa : Int) + (qb : Int)) = (d.toNat : Int) ∧ IntKind.u8.wrap (d.toNat : Int) = (d.toNat : Int) := by
  generalize d.toNat = n at hd ⊢
  exact ⟨IntWalk.i64_in _ (by omega), by rw [IntWalk.i64_in _ (by omega)]; omega, IntWalk.u8_in _ (by omega)⟩
/-- A box of a value, written over; the box below it stays. -/
theorem put_two {w V : World} {b : Nat} {z0 z1 z2 : Value} {c : Array Value} {T U : TypeId} (hg : Grow w V) (hb : w.heap.size ≤ b) (h0 : V.heap[b]? = some (.cells c U (0, 0))) (h : V.heap[b + 1]? = some (.cells #[z0, z1, z2] T (0, 0))) (x y s : Value) {X : World}
    (hX : ((V.setCell ⟨b + 1, 0, none⟩ x).setCell ⟨b + 1, 1, none⟩ y).setCell ⟨b + 1, 2, none⟩ s = X) : Grow w X ∧ b < X.heap.size ∧ b + 1 < X.heap.size ∧ X.heap[b]? = some (.cells c U (0, 0)) ∧ X.heap[b + 1]? = some (.cells #[x, y, s] T (0, 0)) := by
  subst hX
  have h1 : b + 1 < V.heap.size := by
    rcases Nat.lt_or_ge (b + 1) V.heap.size with h' | h'
    · exact h'
    · simp [Array.getElem?_eq_none h'] at h
  have e : (((V.setCell ⟨b + 1, 0, none⟩ x).setCell ⟨b + 1, 1, none⟩ y).setCell ⟨b + 1, 2, none⟩ s).heap.size = V.heap.size := setL_size V (b + 1) 0 [x, y, s]
  exact ⟨setL_grow hg (Nat.le_succ_of_le hb) 0 [x, y, s], by omega, by omega, (setL_other V (b + 1) (by omega) 0 [x, y, s]).trans h0, setL_own h 0 [x, y, s]⟩
theorem strs_eq (a : ByteArray) (l : List UInt8) : (a.toList == (strOf l).toList) = decide (a.data.toList = l) := by
  rw [ByteArray.toList_eq, ByteArray.toList_eq, Bool.eq_iff_iff, beq_iff_eq, decide_eq_true_eq, strOf_toList]
set_option maxHeartbeats 2000000 in
set_option maxRecDepth 20000 in
theorem sReadVal_any (s : ByteArray) (w : World) (hs : s.size ≤ 1048576) : Calls Tryz.prog 33 #[.string s] w (ReadRes w (readV s.data.toList)) := by
  obtain ⟨l, hl⟩ : ∃ l, s.data.toList = l := ⟨_, rfl⟩
  have HL := Lib.hid hl
  have HS := Lib.hid hs
  have HZ : Hid (s.size = l.length) := Lib.hid (by rw [size_list, hl])
  rw [hl]
  clear hl hs
  go_enter Tryz.func33, Tryz.ntmps33
  go_upto_region 6 with (fail)
  generalize hW : World.alloc (World.alloc w _) _ = W
  obtain ⟨gW, s2, s4, b2, b4⟩ := boxedB2 hW
  obtain ⟨k2, f2⟩ := free_of b2
  obtain ⟨k4, f4⟩ := free_of b4
  clear hW
  have hcur := Grow.refl W
  cases hn : (s.toList == [110, 117, 108, 108]) with
  | true =>
    have HE : Hid (l = nullL) := Lib.hid (by rw [str_nullL, HL.out, decide_eq_true_eq] at hn; exact hn)
    go_wp2_with fail
    refine bodyPost_ret (v := .tuple #[.agg #[.int .i64 0, .int .i64 0, .string ⟨#[]⟩], .bool true]) (by simp [results, Tryz.results33, go_sem, k2, k4]) rfl ?_
    rw [HE.out, readV_null]
    exact ⟨rfl, setL_grow gW (Nat.le_refl _) 0 [_, _, _]⟩
  | false =>
    have HE : Hid (l ≠ nullL) := Lib.hid (by rw [str_nullL, HL.out, decide_eq_false_iff_not] at hn; exact hn)
    go_upto_region 8 with (fail)
    go_cut [24] from 24 to 40 (fun c wx => c = .bool (endsQ l) ∧ wx = W)
    case first =>
      by_cases h1 : 1 < l.length
      · have z1 : (1 : Int) < (s.size : Int) := by rw [HZ.out]; omega
        have z0 : 0 < s.size := by rw [HZ.out]; omega
        have HSZ := Lib.hid (show (s.size : Int) ≤ 1048576 by have := HS.out; omega)
        obtain ⟨c, hc⟩ : ∃ c, s[0]'z0 = c := ⟨_, rfl⟩
        have HC : Hid (l[0]? = some c) := Lib.hid (by rw [← HL.out, byte_at z0, hc])
        have z2 : s.size - 1 < s.size := by omega
        obtain ⟨d, hd⟩ : ∃ d, s[s.size - 1]'z2 = d := ⟨_, rfl⟩
        have HD : Hid (l[l.length - 1]? = some d) := Lib.hid (by rw [← HZ.out, ← HL.out, byte_at z2, hd])
        have ew : wrap64 ((s.size : Int) - 1) = ((s.size - 1 : Nat) : Int) := by have := HSZ.out; unfold wrap64; omega
        have z3 : ((s.size - 1 : Nat) : Int) < (s.size : Int) := by omega
        have z4 : (0 : Int) ≤ ((s.size - 1 : Nat) : Int) := Int.natCast_nonneg _
        cases h2 : ((c.toNat : Int) == 39) with
        | false =>
          clear ew z3 z4
          go_wp2_with fail
          go_meet
          exact ⟨by rw [endsQ_head HC.out h2], rfl⟩
        | true =>
          have HQ := Lib.hid (endsQ_last h1 HC.out h2 HD.out)
          cases h3 : ((d.toNat : Int) == 39) with
          | false =>
            go_wp2_with fail
            go_meet
            exact ⟨by rw [HQ.out, h3], rfl⟩
          | true =>
            go_wp2_with fail
            go_meet
            exact ⟨by rw [HQ.out, h3], rfl⟩
      · have z1 : ¬ (1 : Int) < (s.size : Int) := by rw [HZ.out]; omega
        go_wp2_with fail
        go_meet
        exact ⟨by rw [endsQ_short (by omega)], rfl⟩
    case rest =>
      obtain ⟨rfl, rfl⟩ := hcut
      obtain ⟨wo, hwo⟩ : ∃ x, x = wc := ⟨_, rfl⟩
      subst hwo
      cases hq : endsQ l with
      | false =>
        have HR := Lib.hid (readV_num HE.out hq)
        obtain ⟨o, ho⟩ : ∃ o, numV l = o := ⟨_, rfl⟩
        have hC := l1Num_any s wo HS.out
        rw [HL.out, ho] at hC
        rw [ho] at HR
        clear ho hq
        cases o with
        | none =>
          dsimp only [Option.getD, Option.isSome] at hC
          go_wp2_with fail
          refine hC.mono ?_
          rintro e w1 ⟨rfl, GG⟩
          have D2 := (GG.block s2).trans b2
          obtain ⟨m2, e2⟩ := free_of D2
          have t2 := Nat.lt_of_lt_of_le s2 GG.size
          go_wp2_with fail
          refine bodyPost_ret (v := .tuple #[.agg #[.int .i64 0, .int .i64 0, .string ⟨#[]⟩], .bool false]) (by simp [results, Tryz.results33, go_sem, m2]) rfl ?_
          rw [HR.out]
          exact ⟨rfl, setL_grow (gW.trans GG) (Nat.le_refl _) 0 [_, _, _]⟩
        | some n =>
          dsimp only [Option.getD, Option.isSome] at hC
          go_wp2_with fail
          refine hC.mono ?_
          rintro e w1 ⟨rfl, g1⟩
          go_wp2_with fail
          refine (l1IntW_any n _).mono ?_
          rintro e w2 ⟨rfl, g2⟩
          have GG := g1.trans g2
          have D2 := (GG.block s2).trans b2
          have D4 := (GG.block s4).trans b4
          obtain ⟨m2, e2⟩ := free_of D2
          obtain ⟨m4, e4⟩ := free_of D4
          have t2 := Nat.lt_of_lt_of_le s2 GG.size
          have t4 := Nat.lt_of_lt_of_le s4 GG.size
          go_wp2_with fail
          generalize hX : World.setCell (World.setCell (World.setCell _ _ _) _ _) _ _ = X
          obtain ⟨gX, u2, u4, c2, c4⟩ := put_two (gW.trans GG) (Nat.le_refl _) D2 D4 _ _ _ hX
          clear hX D2 D4 m2 m4 e2 e4 t2 t4
          obtain ⟨m2, e2⟩ := free_of c2
          obtain ⟨m4, e4⟩ := free_of c4
          go_wp2_with fail
          refine (sValText_any ⟨1, n, ⟨#[]⟩⟩ _).mono ?_
          rintro e w3 ⟨rfl, g3⟩
          have GR := gX.trans g3
          have p2 := (g3.block u2).trans c2
          have p4 := (g3.block u4).trans c4
          obtain ⟨q2, y2⟩ := free_of p2
          obtain ⟨q4, y4⟩ := free_of p4
          have v2 := Nat.lt_of_lt_of_le u2 g3.size
          have v4 := Nat.lt_of_lt_of_le u4 g3.size
          have HT : Hid (((strOf (textL ⟨1, n, ⟨#[]⟩⟩)).toList == s.toList) = decide (textL ⟨1, n, ⟨#[]⟩⟩ = l)) := Lib.hid (by rw [← HL.out, ← strOf_list s, strs_eq, strOf_toList, strOf_list])
          obtain ⟨T, hT⟩ : ∃ T, strOf (textL ⟨1, n, ⟨#[]⟩⟩) = T := ⟨_, rfl⟩
          rw [hT] at HT ⊢
          clear hT m2 e2 m4 e4
          cases ht : (T.toList == s.toList) with
          | true =>
            go_wp2_with fail
            have hTl := HT.out
            rw [ht] at hTl
            refine bodyPost_ret (v := .tuple #[.agg #[.int .i64 1, .int .i64 n, .string ⟨#[]⟩], .bool true]) (by simp [results, Tryz.results33, go_sem, q2, q4]) rfl ?_
            rw [HR.out]
            (try dsimp only)
            rw [if_pos (of_decide_eq_true hTl.symm)]
            exact ⟨rfl, setL_grow GR (Nat.le_refl _) 0 [_, _, _]⟩
          | false =>
            go_wp2_with fail
            have hTl := HT.out
            rw [ht] at hTl
            refine bodyPost_ret (v := .tuple #[.agg #[.int .i64 0, .int .i64 0, .string ⟨#[]⟩], .bool false]) (by simp [results, Tryz.results33, go_sem, q2, q4]) rfl ?_
            rw [HR.out]
            (try dsimp only)
            rw [if_neg (of_decide_eq_false hTl.symm)]
            exact ⟨rfl, setL_grow GR (Nat.le_refl _) 0 [_, _, _]⟩
      | true =>
        have HR := Lib.hid (readV_str HE.out hq)
        have h2l : 2 ≤ l.length := by simp only [endsQ, Bool.and_eq_true, decide_eq_true_eq] at hq; omega
        have HW := Lib.hid (show wrap64 ((s.size : Int) - 1) = ((s.size - 1 : Nat) : Int) by have := HS.out; have := HZ.out; unfold wrap64; omega)
        clear hq
        go_wp2_with fail
        go_loopw [5, 6] (fun sv iv wr => ∃ (k n c : Nat) (Q : Option Addr) (out : List UInt8), 1 ≤ k ∧ iv = .int .i64 k ∧ sv = .slice Q n c ∧ n ≤ k ∧ k ≤ s.size - 1 ∧ OwnF Kd.byte 5 wo wr Q n c (natL out) ∧ Hid (out ++ sRead (l.drop k) = sRead (l.drop 1))) (fun _ iv _ => s.size + 3 - (intOf iv).toNat)
        case atStart => exact ⟨1, 0, 0, _, [], Nat.le_refl _, rfl, rfl, by omega, by have := HZ.out; omega, OwnF.made (Grow.refl wo), Lib.hid rfl⟩
        case round =>
          obtain ⟨k, n, cp, Q, out, hk1, rfl, rfl, hnk, hks, own, HO⟩ := hrel
          have hG := own.grows
          by_cases hlt : k < s.size - 1
          · have i2 : (k : Int) < ((s.size - 1 : Nat) : Int) := Int.ofNat_lt.mpr hlt
            have hk0 : k < s.size := by omega
            have hk1' : k + 1 < s.size := by omega
            have HKK : Hid (k < 2000000) := Lib.hid (by have := HS.out; omega)
            have HB : Hid (n + 1 ≤ k + 1 ∧ k + 1 ≤ s.size - 1 ∧ n + 1 ≤ 2000000) := Lib.hid ⟨by omega, by omega, by have := HS.out; omega⟩
            have HM1 : Hid (s.size + 3 - (k + 1) < s.size + 3 - k) := Lib.hid (by omega)
            have HM3 : Hid (s.size + 3 - (intOf (.int .i64 (wrap64 ((k : Int) + 2 + 1)))).toNat < s.size + 3 - (intOf (.int .i64 (k : Int))).toNat) := Lib.hid (by rw [(sx_facts HKK.out).2.2.2.1]; simp [intOf]; omega)
            have HI3 : Hid (Value.int .i64 (wrap64 ((k : Int) + 2 + 1)) = .int .i64 ((k + 3 : Nat) : Int)) := Lib.hid (by rw [(sx_facts HKK.out).2.2.2.1]; congr 1)
            have i0 : (0 : Int) ≤ (k : Int) := Int.natCast_nonneg k
            have i1 : (k : Int) < (s.size : Int) := Int.ofNat_lt.mpr hk0
            have j1 : (k : Int) + 1 < (s.size : Int) := by omega
            have j0 : (0 : Int) ≤ (k : Int) + 1 := by omega
            obtain ⟨c, hc⟩ : ∃ c, s[k]'hk0 = c := ⟨_, rfl⟩
            obtain ⟨x, hx⟩ : ∃ x, s[k + 1]'hk1' = x := ⟨_, rfl⟩
            have HD : Hid (l.drop k = c :: x :: l.drop (k + 2)) := Lib.hid (by rw [← HL.out, drop_at hk0, drop_at hk1', hc, hx])
            have HLN : Hid ((l.drop k).length = s.size - k ∧ (l.drop (k + 3)).length = s.size - (k + 3)) := Lib.hid (by rw [List.length_drop, List.length_drop, HZ.out]; exact ⟨rfl, rfl⟩)
            have HF8 := Lib.hid (sx_facts HKK.out)
            have ew := HW.out
            go_upto_region 13 with (fail)
            clear ew
            go_cut [75] from 49 to 75 (fun v wx => v = .bool (sEsc (l.drop k)) ∧ wx = wr)
            case first =>
              cases h37 : ((c.toNat : Int) == 37) with
              | false =>
                obtain ⟨f1, f2, f3, f4, f5, f6, f7, f8⟩ := HF8.out
                go_wp2_with fail
                go_meet
                exact ⟨by rw [HD.out, sEsc_no h37], rfl⟩
              | true =>
                by_cases h3 : k + 3 < s.size
                · have h2' : k + 2 < s.size := by omega
                  have j2 : (k : Int) + 2 < (s.size : Int) := by omega
                  have j3 : (0 : Int) ≤ (k : Int) + 2 := by omega
                  have j4 : (k : Int) + 3 < (s.size : Int) := by omega
                  obtain ⟨y, hy⟩ : ∃ y, s[k + 2]'h2' = y := ⟨_, rfl⟩
                  have HE2 : Hid (sEsc (l.drop k) = (decide (sHex x < 16) && decide (sHex y < 16))) := Lib.hid (by
                    have : l.drop (k + 2) = y :: l.drop (k + 3) := by rw [← HL.out, drop_at h2', hy]
                    rw [HD.out, this]
                    exact sEsc_long h37 (List.ne_nil_of_length_pos (by rw [HLN.out.2]; omega)))
                  have hDx := l1Digit_any x
                  have hDy := l1Digit_any y
                  obtain ⟨qx, hqx⟩ : ∃ q, sHex x = q := ⟨_, rfl⟩
                  obtain ⟨qy, hqy⟩ : ∃ q, sHex y = q := ⟨_, rfl⟩
                  rw [hqx] at hDx HE2
                  rw [hqy] at hDy HE2
                  clear hqx hqy
                  by_cases hx16 : qx < 16
                  · have j5 : (qx : Int) < 16 := by omega
                    by_cases hy16 : qy < 16
                    · have j6 : (qy : Int) < 16 := by omega
                      obtain ⟨f1, f2, f3, f4, f5, f6, f7, f8⟩ := HF8.out
                      go_wp2_with fail
                      refine (hDx _).mono ?_
                      rintro e w' ⟨rfl, rfl⟩
                      go_wp2_with fail
                      refine (hDy _).mono ?_
                      rintro e w' ⟨rfl, rfl⟩
                      go_wp2_with fail
                      go_meet
                      exact ⟨by rw [HE2.out]; simp [hx16, hy16], rfl⟩
                    · have j6 : ¬ (qy : Int) < 16 := by omega
                      obtain ⟨f1, f2, f3, f4, f5, f6, f7, f8⟩ := HF8.out
                      go_wp2_with fail
                      refine (hDx _).mono ?_
                      rintro e w' ⟨rfl, rfl⟩
                      go_wp2_with fail
                      refine (hDy _).mono ?_
                      rintro e w' ⟨rfl, rfl⟩
                      go_wp2_with fail
                      go_meet
                      exact ⟨by rw [HE2.out]; simp [hy16]; first | exact j6 | exact Int.not_lt.mp j6, rfl⟩
                  · have j5 : ¬ (qx : Int) < 16 := by omega
                    obtain ⟨f1, f2, f3, f4, f5, f6, f7, f8⟩ := HF8.out
                    go_wp2_with fail
                    refine (hDx _).mono ?_
                    rintro e w' ⟨rfl, rfl⟩
                    go_wp2_with fail
                    go_meet
                    exact ⟨by rw [HE2.out]; simp [hx16], rfl⟩
                · have j4 : ¬ (k : Int) + 3 < (s.size : Int) := by omega
                  have HSE : Hid (sEsc (l.drop k) = false) := Lib.hid (sEsc_short (by rw [HLN.out.1]; omega))
                  obtain ⟨f1, f2, f3, f4, f5, f6, f7, f8⟩ := HF8.out
                  go_wp2_with fail
                  go_meet
                  exact ⟨by rw [HSE.out], rfl⟩
            case rest =>
              obtain ⟨rfl, rfl⟩ := hcut
              cases hE : sEsc (l.drop k) with
              | false =>
                have HN : Hid ((out ++ [c]) ++ sRead (l.drop (k + 1)) = sRead (l.drop 1)) := Lib.hid (by
                  have h1 : l.drop (k + 1) = x :: l.drop (k + 2) := by rw [← HL.out, drop_at hk1', hx]
                  have h0 := HD.out
                  rw [← h1] at h0
                  rw [← HO.out, h0, sRead_else (by rw [h1]; simp) (by rw [← h0]; exact hE)]
                  simp)
                clear hE
                obtain ⟨f1, f2, f3, f4, f5, f6, f7, f8⟩ := HF8.out
                go_wp2_with (at_builtin; refine wpList_app plain_byte ones_byte elem_byte rfl (.tmp 94) (.tmp 98) (by rfl) (by rfl) (own.grow ((Grow.refl _).alloc _)) (by rfl) (isSl_one (by decide) (new_block _ _) (byte_rd _ _ c)) (q := n + 1) rfl (Nat.le_trans HB.out.2.2 big_len) (by rw [Nat.mul_one]; exact Nat.le_trans HB.out.2.2 big_len2) (fun A3 c3 w3 ap3 => ?_))
                go_roundw
                case rel => exact ⟨k + 1, n + 1, c3, A3, out ++ [c], Nat.le_add_left _ _, by go_num, rfl, HB.out.1, HB.out.2.1, by rw [natL_app]; exact ap3.own.low (Grow.refl _), HN⟩
                case measure => exact HM1.out
              | true =>
                have h3 : k + 3 < s.size := by
                  rcases Nat.lt_or_ge (k + 3) s.size with h' | h'
                  · exact h'
                  · rw [sEsc_short (by rw [HLN.out.1]; omega)] at hE; cases hE
                have h2' : k + 2 < s.size := by omega
                have j2 : (k : Int) + 2 < (s.size : Int) := by omega
                have j3 : (0 : Int) ≤ (k : Int) + 2 := by omega
                have HJ : Hid (n + 1 ≤ k + 3 ∧ k + 3 ≤ s.size - 1) := Lib.hid ⟨by omega, by omega⟩
                obtain ⟨y, hy⟩ : ∃ y, s[k + 2]'h2' = y := ⟨_, rfl⟩
                have HD3 : Hid (l.drop k = c :: x :: y :: l.drop (k + 3)) := Lib.hid (by
                  rw [HD.out, ← HL.out, drop_at h2', hy])
                have HES := Lib.hid hE
                have h37 : ((c.toNat : Int) == 37) = true := by
                  cases h : ((c.toNat : Int) == 37)
                  · rw [HD.out, sEsc_no h] at hE; cases hE
                  · rfl
                rw [HD3.out, sEsc_long h37 (List.ne_nil_of_length_pos (by rw [HLN.out.2]; omega)), Bool.and_eq_true, decide_eq_true_eq, decide_eq_true_eq] at hE
                have hDx := l1Digit_any x
                have hDy := l1Digit_any y
                obtain ⟨qx, hqx⟩ : ∃ q, sHex x = q := ⟨_, rfl⟩
                obtain ⟨qy, hqy⟩ : ∃ q, sHex y = q := ⟨_, rfl⟩
                obtain ⟨d, hd⟩ : ∃ d, UInt8.ofNat (16 * qx + qy) = d := ⟨_, rfl⟩
                rw [hqx] at hDx hE
                rw [hqy] at hDy hE
                have hdn : d.toNat = 16 * qx + qy := by rw [← hd, UInt8.toNat_ofNat']; omega
                have HN : Hid ((out ++ [d]) ++ sRead (l.drop (k + 3)) = sRead (l.drop 1)) := Lib.hid (by
                  have h5 := HES.out
                  rw [HD3.out] at h5
                  rw [← HO.out, HD3.out, sRead_esc h5, hqx, hqy, hd]
                  simp)
                obtain ⟨e1, e2, e3⟩ := sesc_facts hE.1 hE.2 hdn
                clear hqx hqy hd hdn hE h37
                obtain ⟨f1, f2, f3, f4, f5, f6, f7, f8⟩ := HF8.out
                go_wp2_with fail
                refine wp_region_held_drew (S := (fun w' => Grow wo w' ∧ Same wo w')) (by kernel_rfl) (by exact Grow.both (by repeat (with_reducible first | exact Grow.refl _ | assumption | refine Grow.drew ?_ | refine Grow.alloc ?_ _ | refine Grow.set ?_ (by first | exact Nat.le_refl _ | (simp; done) | (simp; omega) | omega) _ | exact And.left (by assumption) | refine Grow.trans ?_ (by assumption)))) (fun hHeld => ?_)
                ((refine held_take (i := 0) 76 (v := ?_) rfl rfl (by kernel_rfl) (by kernel_rfl) (by kernel_rfl) (fun _ _ _ h => h) (by kernel_rfl) ?_ (by assumption) ?_; rotate_left 1; (focus (intro w hSw; (try dsimp only at hSw); go_simp; (try with_reducible rfl); done)); all_goals (try simp only [Act.put, List.setIfInBounds_toArray, List.set_cons_zero, List.set_cons_succ])); (refine held_take (i := 1) 77 (v := ?_) rfl rfl (by kernel_rfl) (by kernel_rfl) (by kernel_rfl) (fun _ _ _ h => h) (by kernel_rfl) ?_ (by assumption) ?_; rotate_left 1; (focus (intro w hSw; (try dsimp only at hSw); go_simp; (try with_reducible rfl); done)); all_goals (try simp only [Act.put, List.setIfInBounds_toArray, List.set_cons_zero, List.set_cons_succ])); (refine held_take (i := 2) 78 (v := ?_) rfl rfl (by kernel_rfl) (by kernel_rfl) (by kernel_rfl) (fun _ _ _ h => h) (by kernel_rfl) ?_ (by assumption) ?_; rotate_left 1; (focus (intro w hSw; (try dsimp only at hSw); go_simp; (try with_reducible rfl); done)); all_goals (try simp only [Act.put, List.setIfInBounds_toArray, List.set_cons_zero, List.set_cons_succ])); (refine held_take (i := 3) 79 (v := ?_) rfl rfl (by kernel_rfl) (by kernel_rfl) (by kernel_rfl) (fun _ _ _ h => h) (by kernel_rfl) ?_ (by assumption) ?_; rotate_left 1; (focus (intro w hSw; (try dsimp only at hSw); go_simp; (try with_reducible rfl); done)); all_goals (try simp only [Act.put, List.setIfInBounds_toArray, List.set_cons_zero, List.set_cons_succ])); (refine held_take (i := 4) 80 (v := ?_) rfl rfl (by kernel_rfl) (by kernel_rfl) (by kernel_rfl) (fun _ _ _ h => h) (by kernel_rfl) ?_ (by assumption) ?_; rotate_left 1; (focus (intro w hSw; (try dsimp only at hSw); go_simp; (try with_reducible rfl); done)); all_goals (try simp only [Act.put, List.setIfInBounds_toArray, List.set_cons_zero, List.set_cons_succ])); (refine held_take (i := 7) 83 (v := ?_) rfl rfl (by kernel_rfl) (by kernel_rfl) (by kernel_rfl) (fun _ _ _ h => h) (by kernel_rfl) ?_ (by assumption) ?_; rotate_left 1; (focus (intro w hSw; (try dsimp only at hSw); go_simp; (try with_reducible rfl); done)); all_goals (try simp only [Act.put, List.setIfInBounds_toArray, List.set_cons_zero, List.set_cons_succ])); (refine held_take (i := 8) 84 (v := ?_) rfl rfl (by kernel_rfl) (by kernel_rfl) (by kernel_rfl) (fun _ _ _ h => h) (by kernel_rfl) ?_ (by assumption) ?_; rotate_left 1; (focus (intro w hSw; (try dsimp only at hSw); go_simp; (try with_reducible rfl); done)); all_goals (try simp only [Act.put, List.setIfInBounds_toArray, List.set_cons_zero, List.set_cons_succ])); (refine held_take (i := 9) 85 (v := ?_) rfl rfl (by kernel_rfl) (by kernel_rfl) (by kernel_rfl) (fun _ _ _ h => h) (by kernel_rfl) ?_ (by assumption) ?_; rotate_left 1; (focus (intro w hSw; (try dsimp only at hSw); go_simp; (try with_reducible rfl); done)); all_goals (try simp only [Act.put, List.setIfInBounds_toArray, List.set_cons_zero, List.set_cons_succ])); (refine held_take (i := 10) 86 (v := ?_) rfl rfl (by kernel_rfl) (by kernel_rfl) (by kernel_rfl) (fun _ _ _ h => h) (by kernel_rfl) ?_ (by assumption) ?_; rotate_left 1; (focus (intro w hSw; (try dsimp only at hSw); go_simp; (try with_reducible rfl); done)); all_goals (try simp only [Act.put, List.setIfInBounds_toArray, List.set_cons_zero, List.set_cons_succ])))
                (refine wpAnyH_ready (rs := [5]) (by kernel_rfl) (by simp) ?_; refine AllReadyH.cons rfl (fun K hK => ?_) AllReadyH.nil; go_simp; (go_at_call 55; refine (hDx _).mono ?_; rintro e w' ⟨rfl, rfl⟩); refine hK.out _ _ (by exact Grow.both (by repeat (with_reducible first | exact Grow.refl _ | assumption | refine Grow.drew ?_ | refine Grow.alloc ?_ _ | refine Grow.set ?_ (by first | exact Nat.le_refl _ | (simp; done) | (simp; omega) | omega) _ | exact And.left (by assumption) | refine Grow.trans ?_ (by assumption)))) (fun hHeld => ?_); clear hK K; (try refine held_put 81 rfl ?_); (try simp only [Act.put, List.setIfInBounds_toArray, List.set_cons_zero, List.set_cons_succ]))
                ((refine held_take (i := 6) 82 (v := ?_) rfl rfl (by kernel_rfl) (by kernel_rfl) (by kernel_rfl) (fun _ _ _ h => h) (by kernel_rfl) ?_ (by assumption) ?_; rotate_left 1; (focus (intro w hSw; (try dsimp only at hSw); go_simp; (try with_reducible rfl); done)); all_goals (try simp only [Act.put, List.setIfInBounds_toArray, List.set_cons_zero, List.set_cons_succ])))
                (refine wpAnyH_ready (rs := [11]) (by kernel_rfl) (by simp) ?_; refine AllReadyH.cons rfl (fun K hK => ?_) AllReadyH.nil; go_simp; (go_at_call 55; refine (hDy _).mono ?_; rintro e w' ⟨rfl, rfl⟩); refine hK.out _ _ (by exact Grow.both (by repeat (with_reducible first | exact Grow.refl _ | assumption | refine Grow.drew ?_ | refine Grow.alloc ?_ _ | refine Grow.set ?_ (by first | exact Nat.le_refl _ | (simp; done) | (simp; omega) | omega) _ | exact And.left (by assumption) | refine Grow.trans ?_ (by assumption)))) (fun hHeld => ?_); clear hK K; (try refine held_put 87 rfl ?_); (try simp only [Act.put, List.setIfInBounds_toArray, List.set_cons_zero, List.set_cons_succ]))
                ((refine held_take (i := 12) 88 (v := ?_) rfl rfl (by kernel_rfl) (by kernel_rfl) (by kernel_rfl) (fun _ _ _ h => h) (by kernel_rfl) ?_ (by assumption) ?_; rotate_left 1; (focus (intro w hSw; (try dsimp only at hSw); go_simp; (try with_reducible rfl); done)); all_goals (try simp only [Act.put, List.setIfInBounds_toArray, List.set_cons_zero, List.set_cons_succ])); (refine held_take (i := 13) 89 (v := ?_) rfl rfl (by kernel_rfl) (by kernel_rfl) (by kernel_rfl) (fun _ _ _ h => h) (by kernel_rfl) ?_ (by assumption) ?_; rotate_left 1; (focus (intro w hSw; (try dsimp only at hSw); go_simp; (try with_reducible rfl); done)); all_goals (try simp only [Act.put, List.setIfInBounds_toArray, List.set_cons_zero, List.set_cons_succ])))
                refine wpAnyH_ready (rs := [14]) (by kernel_rfl) (by simp) ?_
                refine AllReadyH.cons rfl (fun K hK => ?_) AllReadyH.nil
                go_simp
                refine hK.out _ _ (by exact Grow.both ((hG.alloc _).drew)) (fun hHeld => ?_)
                clear hK K
                (try refine held_put 90 rfl ?_)
                (try simp only [Act.put, List.setIfInBounds_toArray, List.set_cons_zero, List.set_cons_succ])
                generalize hW4 : World.alloc wc _ = W4 at hHeld ⊢
                obtain ⟨gW4, s4', q4⟩ := boxedB hW4
                clear hW4
                refine wpAnyH_ready (rs := [15]) (by kernel_rfl) (by simp) ?_
                refine AllReadyH.cons rfl (fun K hK => ?_) AllReadyH.nil
                refine step_app plain_byte ones_byte elem_byte (by rfl) (.tmp 76) (.tmp 90) (by rfl) (by rfl) (own.grow gW4.drew) (by rfl) (isSl_one (by decide) q4 (byte_rd _ _ d)) (q := n + 1) rfl (Nat.le_trans HB.out.2.2 big_len) (by rw [Nat.mul_one]; exact Nat.le_trans HB.out.2.2 big_len2) (fun A3 c3 w3 ap3 => ?_)
                refine hK.out _ _ (by exact Grow.both ap3.own.grows) (fun hHeld => ?_)
                clear hK K
                (try refine held_put 91 rfl ?_)
                (try simp only [Act.put, List.setIfInBounds_toArray, List.set_cons_zero, List.set_cons_succ])
                ((refine held_take (i := 16) 5 (v := ?_) rfl rfl (by kernel_rfl) (by kernel_rfl) (by kernel_rfl) (fun _ _ _ h => h) (by kernel_rfl) ?_ (by assumption) ?_; rotate_left 1; (focus (intro w hSw; (try dsimp only at hSw); go_simp; (try with_reducible rfl); done)); all_goals (try simp only [Act.put, List.setIfInBounds_toArray, List.set_cons_zero, List.set_cons_succ])))
                refine wpAnyH_done (by kernel_rfl) ?_ _
                clear e1 e2 e3 f1 f2 f3 f4 f5 f6 f7 f8
                have f2 := (sx_facts HKK.out).2.1
                go_wp2_with fail
                go_roundw
                case rel => exact ⟨k + 3, n + 1, c3, A3, out ++ [d], Nat.le_add_left _ _, HI3.out, rfl, HJ.out.1, HJ.out.2, by rw [natL_app]; exact ap3.own.low (Grow.refl _), HN⟩
                case measure => exact HM3.out
          · obtain rfl : k = s.size - 1 := by omega
            have i2 : ¬ ((s.size - 1 : Nat) : Int) < ((s.size - 1 : Nat) : Int) := by omega
            have hcv := conv_str own.isSl
            have HF : Hid (out = sRead l.tail) := Lib.hid (by
              rw [← List.drop_one, ← HO.out]
              have : (l.drop (s.size - 1)).length ≤ 1 := by rw [List.length_drop, HZ.out]; omega
              match hm : l.drop (s.size - 1), this with
              | [], _ => simp [sRead]
              | [x], _ => simp [sRead])
            clear own HO
            have ew := HW.out
            go_wp2_with fail
            clear ew
            refine (l1StrW_any _ _).mono ?_
            rintro e w2 ⟨rfl, g2⟩
            have GG := hG.trans g2
            have D2 := (GG.block s2).trans b2
            have D4 := (GG.block s4).trans b4
            obtain ⟨m2, e2⟩ := free_of D2
            obtain ⟨m4, e4⟩ := free_of D4
            have t2 := Nat.lt_of_lt_of_le s2 GG.size
            have t4 := Nat.lt_of_lt_of_le s4 GG.size
            go_wp2_with fail
            generalize hX : World.setCell (World.setCell (World.setCell _ _ _) _ _) _ _ = X
            obtain ⟨gX, u2, u4, c2, c4⟩ := put_two (gW.trans GG) (Nat.le_refl _) D2 D4 _ _ _ hX
            clear hX D2 D4 m2 m4 e2 e4 t2 t4
            obtain ⟨m2, e2⟩ := free_of c2
            obtain ⟨m4, e4⟩ := free_of c4
            go_wp2_with fail
            refine (sValText_any ⟨2, 0, strOf out⟩ _).mono ?_
            rintro e w3 ⟨rfl, g3⟩
            have GR := gX.trans g3
            have p2 := (g3.block u2).trans c2
            have p4 := (g3.block u4).trans c4
            obtain ⟨q2, y2⟩ := free_of p2
            obtain ⟨q4, y4⟩ := free_of p4
            have v2 := Nat.lt_of_lt_of_le u2 g3.size
            have v4 := Nat.lt_of_lt_of_le u4 g3.size
            have HT : Hid (((strOf (textL ⟨2, 0, strOf out⟩)).toList == s.toList) = decide (textL ⟨2, 0, strOf out⟩ = l)) := Lib.hid (by rw [← HL.out, ← strOf_list s, strs_eq, strOf_toList, strOf_list])
            obtain ⟨T, hT⟩ : ∃ T, strOf (textL ⟨2, 0, strOf out⟩) = T := ⟨_, rfl⟩
            rw [hT] at HT ⊢
            clear hT m2 e2 m4 e4
            cases ht : (T.toList == s.toList) with
            | true =>
              go_wp2_with fail
              have hTl := HT.out
              rw [ht] at hTl
              refine bodyPost_ret (v := .tuple #[.agg #[.int .i64 2, .int .i64 0, .string (strOf out)], .bool true]) (by simp [results, Tryz.results33, go_sem, q2, q4]) rfl ?_
              rw [HR.out, ← HF.out]
              (try dsimp only)
              rw [if_pos (of_decide_eq_true hTl.symm)]
              exact ⟨rfl, setL_grow GR (Nat.le_refl _) 0 [_, _, _]⟩
            | false =>
              go_wp2_with fail
              have hTl := HT.out
              rw [ht] at hTl
              refine bodyPost_ret (v := .tuple #[.agg #[.int .i64 0, .int .i64 0, .string ⟨#[]⟩], .bool false]) (by simp [results, Tryz.results33, go_sem, q2, q4]) rfl ?_
              rw [HR.out, ← HF.out]
              (try dsimp only)
              rw [if_neg (of_decide_eq_false hTl.symm)]
              exact ⟨rfl, setL_grow GR (Nat.le_refl _) 0 [_, _, _]⟩
end Go.Proofs.YtdgmoplfiodahaaGreatDoor
