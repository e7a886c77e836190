import Derived.Test.YtdgmoplfiodahaaGreatDoorTextK
/-! One word's reading by the reference, walked. -/
namespace Go.Proofs.YtdgmoplfiodahaaGreatDoor
open Go.RowKit
set_option linter.unusedVariables false
set_option linter.unusedSimpArgs false
theorem opOf_none {l : List UInt8} (h : ∀ j : Int, 3 ≤ j → j ≤ 10 → opL j ≠ l) : opOf l = none := by
  unfold opOf
  rw [if_neg (fun e => h 3 (by decide) (by decide) e.symm), if_neg (fun e => h 4 (by decide) (by decide) e.symm), if_neg (fun e => h 5 (by decide) (by decide) e.symm), if_neg (fun e => h 6 (by decide) (by decide) e.symm), if_neg (fun e => h 7 (by decide) (by decide) e.symm), if_neg (fun e => h 8 (by decide) (by decide) e.symm), if_neg (fun e => h 9 (by decide) (by decide) e.symm), if_neg (fun e => h 10 (by decide) (by decide) e.symm)]
theorem isTok_op {k : Int} (h0 : 3 ≤ k) (h1 : k ≤ 10) : isTokB ⟨k, 0, ⟨0, 0, ⟨#[]⟩⟩⟩ 16 = true := by
  have : k = 3 ∨ k = 4 ∨ k = 5 ∨ k = 6 ∨ k = 7 ∨ k = 8 ∨ k = 9 ∨ k = 10 := by omega
  rcases this with rfl | rfl | rfl | rfl | rfl | rfl | rfl | rfl <;> decide +kernel
theorem word_op {k : Int} (h0 : 3 ≤ k) (h1 : k ≤ 10) : wordL ⟨k, 0, ⟨0, 0, ⟨#[]⟩⟩⟩ = opL k := by
  unfold wordL
  rw [if_neg (by dsimp only; omega), if_neg (by dsimp only; omega)]
/-- What a word's reading hands back: a part, and whether it is one. -/
def TokRes (w : World) (o : Option Tok) (e : Ending) (w' : World) : Prop := ∃ (t : Tok) (b : Bool), e = .returned (.tuple #[.agg #[.int .i64 t.kind, .int .i64 t.col, .int .i64 t.v.kind, .int .i64 t.v.n, .string t.v.s], .bool b]) ∧ ((b = true ∧ o = some t) ∨ (b = false ∧ o = none)) ∧ Grow w w'
set_option maxHeartbeats 2000000 in
set_option maxRecDepth 20000 in
theorem l2Read_any (s : ByteArray) (w : World) (hs : s.size ≤ 1048576) : Calls Tryz.prog 17 #[.string s] w (TokRes w (sTok s.data.toList)) := by
  obtain ⟨l, hl⟩ : ∃ l, s.data.toList = l := ⟨_, rfl⟩
  have HL := Lib.hid hl
  have HS := Lib.hid hs
  have HZ : Hid (s.size = l.length) := Lib.hid (by rw [size_list, hl])
  rw [hl]
  clear hl hs
  go_enter Tryz.func17, Tryz.ntmps17
  go_wp2_with fail
  generalize hW : World.alloc w _ = W
  obtain ⟨gW, s2, b2⟩ := boxedB hW
  clear hW
  go_loopw [4] (fun iv wr => ∃ k : Nat, 3 ≤ k ∧ k ≤ 11 ∧ iv = .int .i64 k ∧ Grow W wr ∧ Hid (∀ j : Int, 3 ≤ j → j < k → opL j ≠ l)) (fun iv _ => 12 - (intOf iv).toNat)
  case atStart => exact ⟨3, by decide, by decide, rfl, Grow.refl _, Lib.hid (fun j h1 h2 => by omega)⟩
  case round =>
    obtain ⟨k, hk0, hk, rfl, hg, HN⟩ := hrel
    by_cases hlt : k ≤ 10
    · have i1 : (k : Int) ≤ 10 := by omega
      have HC := fun w => l2Word_any ⟨k, 0, ⟨0, 0, ⟨#[]⟩⟩⟩ w (isTok_op (by omega) i1)
      rw [word_op (by omega) i1] at HC
      obtain ⟨T, hT⟩ : ∃ T, strOf (opL k) = T := ⟨_, rfl⟩
      have HT : Hid ((T.toList == s.toList) = decide (opL k = l)) := Lib.hid (by rw [← hT, ← HL.out, ← strOf_list s, strs_eq, strOf_toList, strOf_list])
      rw [hT] at HC
      clear hT
      go_wp2_with fail
      refine (HC _).mono ?_
      rintro e w1 ⟨rfl, g1⟩
      have gg := hg.trans g1
      obtain ⟨c2, f2⟩ := free_of ((gg.block s2).trans b2)
      have t2 := Nat.lt_of_lt_of_le s2 gg.size
      cases ht : (T.toList == s.toList) with
      | true =>
        have HE : Hid (sTok l = some ⟨(k : Int), 0, zeroV⟩) := Lib.hid (by
          have h1 := HT.out
          rw [ht] at h1
          have h2 : opL k = l := of_decide_eq_true h1.symm
          unfold sTok
          rw [← h2, opOf_op (by omega) i1]; rfl)
        go_wp2_with fail
        exact bodyPost_ret (v := .tuple #[.agg #[.int .i64 k, .int .i64 0, .int .i64 0, .int .i64 0, .string ⟨#[]⟩], .bool true]) (by simp [results, Tryz.results17, go_sem, c2]) rfl ⟨⟨(k : Int), 0, zeroV⟩, true, rfl, .inl ⟨rfl, HE.out⟩, setL_grow (gW.trans gg) (Nat.le_refl _) 0 [_, _, _, _, _]⟩
      | false =>
        have HN2 : Hid (∀ j : Int, 3 ≤ j → j < ((k + 1 : Nat) : Int) → opL j ≠ l) := Lib.hid (fun j h1 h2 => by
          by_cases hj : j < (k : Int)
          · exact HN.out j h1 hj
          · obtain rfl : j = (k : Int) := by omega
            have h3 := HT.out
            rw [ht] at h3
            exact of_decide_eq_false h3.symm)
        clear c2 f2 t2
        go_wp2
        exact ⟨⟨k + 1, by omega, by omega, by go_num, gg, HN2⟩, by simp [intOf]; omega⟩
    · obtain rfl : k = 11 := by omega
      have HO : Hid (opOf l = none) := Lib.hid (opOf_none (fun j h1 h2 => HN.out j h1 (by omega)))
      clear HN
      obtain ⟨c2, f2⟩ := free_of ((hg.block s2).trans b2)
      have t2 := Nat.lt_of_lt_of_le s2 hg.size
      obtain ⟨⟨rv, rb⟩, hrv⟩ : ∃ q, readV l = q := ⟨_, rfl⟩
      have HRV := Lib.hid hrv
      clear hrv
      by_cases h1 : 1 < l.length
      · obtain ⟨a, r, hlr⟩ : ∃ a r, l = a :: r := by
          cases l with
          | nil => simp at h1
          | cons a r => exact ⟨a, r, rfl⟩
        have HLR := Lib.hid hlr
        have z1 : (1 : Int) < (s.size : Int) := by rw [HZ.out]; omega
        have z0 : (0 : Int) < (s.size : Int) := by omega
        have z2 : (1 : Int) ≤ (s.size : Int) := by omega
        have i0 := ix0 (HL.out.trans hlr)
        have ht := tail_list (HL.out.trans hlr)
        have hx35 : (a = 35) ↔ ((a.toNat : Int) == 35) = true := by rw [← beq_iff_eq, u8_beq a 35]; rfl
        cases h35 : ((a.toNat : Int) == 35) with
        | true =>
          have HR : Hid (sTok l = (numV r).map (fun n => ⟨1, n, zeroV⟩)) := Lib.hid (by
            unfold sTok
            rw [HO.out]
            dsimp only
            rw [if_pos ⟨h1, by rw [hlr, hx35.mpr h35]; rfl⟩, hlr]; rfl)
          have HA := l1Num_any (s.extract 1 s.size) wr (Nat.le_trans (by rw [ByteArray.size_extract]; omega) HS.out)
          rw [ht] at HA
          obtain ⟨o, ho⟩ : ∃ o, numV r = o := ⟨_, rfl⟩
          rw [ho] at HA HR
          clear ho hx35 ht h1 hlr
          go_wp2_with fail
          refine HA.mono ?_
          rintro e w1 ⟨rfl, g1⟩
          have gg := hg.trans g1
          obtain ⟨d2, e2⟩ := free_of ((gg.block s2).trans b2)
          have v2 := Nat.lt_of_lt_of_le s2 gg.size
          clear c2 f2 t2
          go_wp2_with fail
          refine bodyPost_ret (v := .tuple #[.agg #[.int .i64 1, .int .i64 (o.getD 0), .int .i64 0, .int .i64 0, .string ⟨#[]⟩], .bool o.isSome]) (by simp [results, Tryz.results17, go_sem, d2]) rfl ⟨⟨1, o.getD 0, zeroV⟩, o.isSome, rfl, ?_, setL_grow (gW.trans gg) (Nat.le_refl _) 0 [_, _, _, _, _]⟩
          rw [HR.out]; cases o <;> simp
        | false =>
          have HNE : Hid (¬ (1 < l.length ∧ l.head? = some 35)) := Lib.hid (fun hx => by
            have h2 := hx.2
            rw [hlr] at h2
            have := hx35.mp (Option.some.inj h2)
            rw [h35] at this; cases this)
          clear hx35 ht h1 hlr
          have HR : Hid (sTok l = if rb = true then some ⟨2, 0, rv⟩ else none) := Lib.hid (by
            have h0 := HRV.out
            unfold sTok
            rw [HO.out]
            dsimp only
            rw [if_neg (HNE.out), h0])
          have HA := sReadVal_any s wr HS.out
          rw [HL.out, HRV.out] at HA
          go_wp2_with fail
          refine HA.mono ?_
          rintro e w1 ⟨rfl, g1⟩
          dsimp only
          have gg := hg.trans g1
          obtain ⟨d2, e2⟩ := free_of ((gg.block s2).trans b2)
          have v2 := Nat.lt_of_lt_of_le s2 gg.size
          clear c2 f2 t2
          go_wp2_with fail
          refine bodyPost_ret (v := .tuple #[.agg #[.int .i64 2, .int .i64 0, .int .i64 rv.kind, .int .i64 rv.n, .string rv.s], .bool rb]) (by simp [results, Tryz.results17, go_sem, d2, v2]) rfl ⟨⟨2, 0, rv⟩, rb, rfl, ?_, ?_⟩
          · rw [HR.out]; cases rb <;> simp
          · exact (setL_grow (gW.trans gg) (Nat.le_refl _) 0 [.int .i64 2, .int .i64 0, .int .i64 rv.kind, .int .i64 rv.n, .string rv.s]).alloc _
      · have z1 : ¬ (1 : Int) < (s.size : Int) := by rw [HZ.out]; omega
        have HNE : Hid (¬ (1 < l.length ∧ l.head? = some 35)) := Lib.hid (fun hx => h1 hx.1)
        clear h1
        have HR : Hid (sTok l = if rb = true then some ⟨2, 0, rv⟩ else none) := Lib.hid (by
          have h0 := HRV.out
          unfold sTok
          rw [HO.out]
          dsimp only
          rw [if_neg (HNE.out), h0])
        have HA := sReadVal_any s wr HS.out
        rw [HL.out, HRV.out] at HA
        go_wp2_with fail
        refine HA.mono ?_
        rintro e w1 ⟨rfl, g1⟩
        dsimp only
        have gg := hg.trans g1
        obtain ⟨d2, e2⟩ := free_of ((gg.block s2).trans b2)
        have v2 := Nat.lt_of_lt_of_le s2 gg.size
        clear c2 f2 t2
        go_wp2_with fail
        refine bodyPost_ret (v := .tuple #[.agg #[.int .i64 2, .int .i64 0, .int .i64 rv.kind, .int .i64 rv.n, .string rv.s], .bool rb]) (by simp [results, Tryz.results17, go_sem, d2, v2]) rfl ⟨⟨2, 0, rv⟩, rb, rfl, ?_, ?_⟩
        · rw [HR.out]; cases rb <;> simp
        · exact (setL_grow (gW.trans gg) (Nat.le_refl _) 0 [.int .i64 2, .int .i64 0, .int .i64 rv.kind, .int .i64 rv.n, .string rv.s]).alloc _
end Go.Proofs.YtdgmoplfiodahaaGreatDoor
