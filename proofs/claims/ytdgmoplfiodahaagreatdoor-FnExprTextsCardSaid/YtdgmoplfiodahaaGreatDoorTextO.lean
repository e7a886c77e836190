import Derived.Test.YtdgmoplfiodahaaGreatDoorTextN
import Derived.Test.YtdgmoplfiodahaaGreatDoorTextX
import Derived.Test.YtdgmoplfiodahaaGreatDoorLit
import Derived.Lib.SplitLaws
/-! The program's words and ReadExpr, walked. -/
namespace Go.Proofs.YtdgmoplfiodahaaGreatDoor
open Go.RowKit
set_option linter.unusedVariables false
set_option linter.unusedSimpArgs false
theorem splitK_words (l : List UInt8) : Lib.splitK [32] 0 (Lib.count l [32]) l = wordsL l := by
  induction l with
  | nil => rw [Lib.count_miss (by simp [Lib.index])]; rfl
  | cons c r ih =>
    by_cases hc : c = 32
    · subst hc
      have hix : Lib.index (32 :: r) [32] = ((0 : Nat) : Int) := by rw [Lib.index]; simp [List.isPrefixOf]
      rw [Lib.count_cons_eq, Nat.add_comm, Lib.splitK, hix, wordsL, if_pos rfl, if_neg (by decide)]
      simpa using ih
    · have hp : ([32] : List UInt8).isPrefixOf (c :: r) = false := by simp [List.isPrefixOf, Ne.symm hc]
      have hix : Lib.index (c :: r) [32] = if Lib.index r [32] == -1 then -1 else Lib.index r [32] + 1 := by rw [Lib.index, hp]; simp
      rw [Lib.count_cons_ne c 32 r hc, wordsL, if_neg hc, ← ih]
      by_cases hm : Lib.index r [32] = -1
      · rw [Lib.count_miss hm]; rfl
      · have hge := Lib.index_ge r [32]
        obtain ⟨j, hj⟩ : ∃ j : Nat, Lib.index r [32] = j := ⟨(Lib.index r [32]).toNat, by omega⟩
        have hix' : Lib.index (c :: r) [32] = ((j + 1 : Nat) : Int) := by rw [hix, if_neg (fun e => hm (beq_iff_eq.1 e)), hj]; omega
        have hne : ¬ ((((j + 1 : Nat) : Int)) == -1) = true := fun e => by have := beq_iff_eq.1 e; omega
        have hnj : ¬ ((((j : Nat) : Int)) == -1) = true := fun e => by have := beq_iff_eq.1 e; omega
        rw [Lib.count_hit (by simp) hj, Nat.add_comm, Lib.splitK, Lib.splitK, hix', hj, if_neg hne, if_neg hnj]
        simp
theorem splitB_words (s : ByteArray) : Lib.splitB ⟨#[32]⟩ 0 (Lib.countB s ⟨#[32]⟩) s = (wordsL s.data.toList).map strOf := by
  have h := Lib.splitB_data ⟨#[32]⟩ 0 (Lib.countB s ⟨#[32]⟩) s
  have h2 : Lib.splitK (ByteArray.mk #[32]).data.toList 0 (Lib.countB s ⟨#[32]⟩) s.data.toList = wordsL s.data.toList := splitK_words s.data.toList
  rw [h2] at h
  rw [← h, List.map_map]
  have : ∀ x ∈ Lib.splitB ⟨#[32]⟩ 0 (Lib.countB s ⟨#[32]⟩) s, (strOf ∘ fun x : ByteArray => x.data.toList) x = id x := fun x _ => strOf_list x
  rw [List.map_congr_left this, List.map_id]
theorem flat_strs {w : World} {S : Nat → Prop} : ∀ (ws : List ByteArray), (∀ x ∈ ws, x.size ≤ maxLen) → Flat Kd.str w S (ws.map Value.string) ws
  | [], _ => rfl
  | x :: r, h => ⟨[.string x], r.map Value.string, rfl, ⟨rfl, h x (by simp)⟩, flat_strs r (fun y hy => h y (by simp [hy]))⟩
/-- The library's tables, errors and greatest length stand as their initialisers lay them. -/
structure Gates (w : World) : Prop where
  doors : Doors w
  max : ∃ m, w.cell? ⟨0, 0, none⟩ = some (.int .i64 m)
theorem Gates.grow {w w' : World} (h : Gates w) (hg : Grow w w') : Gates w' := ⟨h.doors.grow hg, h.max.imp fun m y => cell_grow hg y⟩
theorem split_any (s : ByteArray) (w : World) (hs : s.size ≤ 1048576) (hg : Gates w) : Calls Tryz.prog 18 #[.string s, .string ⟨#[32]⟩] w
    (fun e w' => ∃ n, e = .returned (.slice (some ⟨w.heap.size, 0, none⟩) n n) ∧ IsSl Kd.str w' (Fresh w.heap.size w') (some ⟨w.heap.size, 0, none⟩) n n ((wordsL s.data.toList).map strOf) ∧ Grow w w') := by
  obtain ⟨m, hm⟩ := hg.max
  have hlen := Lib.splitB_all ⟨#[32]⟩ (by decide) 0 _ s rfl
  have hle := Lib.countB_le ⟨#[32]⟩ (by decide) s.size s (Nat.le_refl _)
  refine (Tryz.strings_Split s ⟨#[32]⟩ m w (by omega) hm (by decide)).mono ?_
  rintro e w' ⟨rfl, rfl⟩
  rw [splitB_words] at hlen ⊢
  refine ⟨_, rfl, isSl_lit (new_block w _) ?_ hlen (by unfold maxLen; omega) ⟨Nat.le_refl _, by simp, (free_of (new_block w _)).2⟩, (Grow.refl w).alloc _⟩
  refine flat_strs _ (fun x hx => ?_)
  obtain ⟨y, hy, rfl⟩ := List.mem_map.mp hx
  have := wordsL_len _ y hy
  rw [strOf_size, ← size_list] at *
  unfold maxLen; omega
theorem prefix_35 (l : List UInt8) : Lib.hasPrefix l [35] = decide (l.head? = some 35) := by
  cases l with
  | nil => rfl
  | cons a r =>
    simp only [Lib.hasPrefix, List.isPrefixOf, List.head?_cons, Option.some.injEq, Bool.and_true]
    rw [Bool.eq_iff_iff, beq_iff_eq, decide_eq_true_eq]
    exact eq_comm
theorem trim_35 {l : List UInt8} (h : Lib.hasPrefix l [35] = true) : (⟨(Lib.trimPrefix l [35]).toArray⟩ : ByteArray) = strOf l.tail := by
  unfold Lib.trimPrefix
  rw [if_pos h]
  cases l <;> rfl
theorem iTok_op {l : List UInt8} {k : Int} (h0 : 3 ≤ k) (h1 : k ≤ 10) (h : opL k = l) : iTok l = opTok k := by
  unfold iTok
  rw [← h, opOf_op h0 h1]
theorem iTok_size (l : List UInt8) : (iTok l).v.s.size ≤ maxLen := by
  have h12 : (12 : Nat) ≤ maxLen := by unfold maxLen; decide
  have h0 : (ByteArray.mk #[]).size ≤ maxLen := Nat.zero_le _
  unfold iTok
  split
  · exact h0
  · split
    · exact h0
    · dsimp only
      cases hr : (readV l).2 with
      | true => exact Nat.le_trans (readV_size hr) h12
      | false =>
        unfold readV at hr ⊢
        split
        · rename_i h'; rw [if_pos h'] at hr; cases hr
        · exact h0
set_option maxHeartbeats 2000000 in
set_option maxRecDepth 20000 in
theorem readTok_any (s : ByteArray) (w : World) (hs : s.size ≤ 1048576) (hd : Doors w) : Calls Tryz.prog 19 #[.string s] w
    (Ret w (.agg #[.int .i64 (iTok s.data.toList).kind, .int .i64 (iTok s.data.toList).col, .int .i64 (iTok s.data.toList).v.kind, .int .i64 (iTok s.data.toList).v.n, .string (iTok s.data.toList).v.s])) := by
  obtain ⟨l, hl⟩ : ∃ l, s.data.toList = l := ⟨_, rfl⟩
  have HL := Lib.hid hl
  have HS := Lib.hid hs
  have HDo := Lib.hid hd
  obtain ⟨T, hT⟩ : ∃ T, iTok l = T := ⟨_, rfl⟩
  rw [hl, hT]
  have HT := Lib.hid hT
  clear hl hs hd hT
  go_enter Tryz.func19, Tryz.ntmps19
  go_upto_region 1 with (fail)
  generalize hW : World.alloc w _ = W
  have cW : W.heap[w.heap.size]? = some (.cells #[.int .i64 0, .int .i64 0, .int .i64 0, .int .i64 0, .string ⟨#[]⟩] 38 (0, 0)) := by rw [← hW]; exact new_block w _
  obtain ⟨gW, uW, -⟩ := boxed1 hW
  clear hW
  go_wp2_with fail
  go_loopw [3] (fun iv wr => ∃ k : Int, 3 ≤ k ∧ k ≤ 11 ∧ iv = .int .i64 k ∧ Grow W wr ∧ Hid (∀ j : Int, 3 ≤ j → j < k → opL j ≠ l)) (fun iv _ => 11 - (intOf iv).toNat)
  case atStart => exact ⟨3, by decide, by decide, rfl, Grow.refl _, Lib.hid (fun j h0 h1 => by omega)⟩
  case round =>
    obtain ⟨k, k0, k1, rfl, hg, HN⟩ := hrel
    have cR := (hg.block uW).trans cW
    have uR := Nat.lt_of_lt_of_le uW hg.size
    have gR := gW.trans hg
    obtain ⟨mR, fR⟩ := free_of cR
    by_cases hlt : k ≤ 10
    · have HA := fun w h => wordOf_any (opTok k) w (by
        have : k = 3 ∨ k = 4 ∨ k = 5 ∨ k = 6 ∨ k = 7 ∨ k = 8 ∨ k = 9 ∨ k = 10 := by omega
        rcases this with rfl | rfl | rfl | rfl | rfl | rfl | rfl | rfl <;> decide +kernel) h
      rw [opTok_word k0 hlt] at HA
      dsimp only [opTok, zeroV] at HA
      have HTT : Hid (((strOf (opL k)).toList == s.toList) = decide (opL k = l)) := Lib.hid (by rw [← HL.out, ← strOf_list s, strs_eq, strOf_toList, strOf_list])
      obtain ⟨V, hV⟩ : ∃ V, strOf (opL k) = V := ⟨_, rfl⟩
      rw [hV] at HA HTT
      clear hV
      go_wp2_with fail
      generalize hY : World.alloc wr _ = Y
      have cY : Y.heap[wr.heap.size]? = some (.cells #[.int .i64 k, .int .i64 0, .int .i64 0, .int .i64 0, .string ⟨#[]⟩] 38 (0, 0)) := by rw [← hY]; exact new_block wr _
      obtain ⟨gY, uY, -⟩ := boxed1 hY
      clear hY
      refine (HA _ (HDo.out.grow (gR.trans gY)).ten).mono ?_
      rintro e w2 ⟨rfl, g2⟩
      have d0 := ((gY.trans g2).block uR).trans cR
      have d4 := (g2.block uY).trans cY
      have v0 := Nat.lt_of_lt_of_le uR (gY.trans g2).size
      have v4 := Nat.lt_of_lt_of_le uY g2.size
      have GG := gR.trans (gY.trans g2)
      have GW := hg.trans (gY.trans g2)
      obtain ⟨m0, f0⟩ := free_of d0
      obtain ⟨m4, f4⟩ := free_of d4
      clear cY cR mR fR HA
      cases ht : (V.toList == s.toList) with
      | true =>
        have HK : Hid (T = opTok k) := Lib.hid (by
          have h0 := HTT.out
          rw [ht] at h0
          rw [← HT.out, iTok_op k0 hlt (of_decide_eq_true h0.symm)])
        go_wp2_with fail
        refine bodyPost_ret (v := .agg #[.int .i64 k, .int .i64 0, .int .i64 0, .int .i64 0, .string ⟨#[]⟩]) (by simp [results, Tryz.results19, go_sem, m0]) rfl ?_
        rw [HK.out]
        exact ⟨rfl, setL_grow GG (Nat.le_refl _) 0 [_, _, _, _, _]⟩
      | false =>
        have HN2 : Hid (∀ j : Int, 3 ≤ j → j < k + 1 → opL j ≠ l) := Lib.hid (fun j h0 h1 => by
          by_cases hj : j < k
          · exact HN.out j h0 hj
          · obtain rfl : j = k := by omega
            have h0 := HTT.out
            rw [ht] at h0
            exact of_decide_eq_false h0.symm)
        go_wp2_with fail
        go_roundw
        case rel => exact ⟨k + 1, by omega, by omega, by go_num, GW, HN2⟩
        case measure => simp [intOf]; omega
    · obtain rfl : k = 11 := by omega
      have HO : Hid (opOf l = none) := Lib.hid (opOf_none (fun j h0 h1 => HN.out j h0 (by omega)))
      have HC := fun w => Tryz.strings_CutPrefix s ⟨#[35]⟩ w
      have HDR := Lib.hid (HDo.out.grow gR)
      cases hp : Lib.hasPrefix l [35] with
      | true =>
        have e1 : (⟨(Lib.trimPrefix s.data.toList (ByteArray.mk #[35]).data.toList).toArray⟩ : ByteArray) = strOf l.tail := by rw [HL.out]; exact trim_35 hp
        have e2 : Lib.hasPrefix s.data.toList (ByteArray.mk #[35]).data.toList = true := by rw [HL.out]; exact hp
        simp only [e1, e2] at HC
        have HPI := fun w h => pint_any (strOf l.tail) w (by
          rw [strOf_size]
          have h1 := HS.out
          rw [size_list, HL.out] at h1
          have h2 := List.length_tail (l := l)
          omega) h
        rw [strOf_toList] at HPI
        have HTE : Hid (T = ⟨1, pint l.tail, zeroV⟩) := Lib.hid (by
          rw [prefix_35, decide_eq_true_eq] at hp
          rw [← HT.out, iTok, HO.out]
          dsimp only
          rw [if_pos hp])
        obtain ⟨N, hN⟩ : ∃ N, pint l.tail = N := ⟨_, rfl⟩
        obtain ⟨U, hU⟩ : ∃ U, strOf l.tail = U := ⟨_, rfl⟩
        rw [hN] at HPI HTE
        rw [hU] at HPI HC
        clear hp e1 e2 hN hU
        go_wp2_with fail
        refine (HC _).mono ?_
        rintro e w0 ⟨rfl, rfl⟩
        go_wp2_with fail
        refine (HPI _ HDR.out).mono ?_
        rintro e w1 ⟨ev, rfl, g1⟩
        have d0 := (g1.block uR).trans cR
        have v0 := Nat.lt_of_lt_of_le uR g1.size
        have GG := gR.trans g1
        obtain ⟨m0, f0⟩ := free_of d0
        clear cR mR fR HPI HC
        go_wp2_with fail
        refine bodyPost_ret (v := .agg #[.int .i64 1, .int .i64 N, .int .i64 0, .int .i64 0, .string ⟨#[]⟩]) (by simp [results, Tryz.results19, go_sem, m0]) rfl ?_
        rw [HTE.out]
        exact ⟨rfl, setL_grow GG (Nat.le_refl _) 0 [_, _, _, _, _]⟩
      | false =>
        have e2 : Lib.hasPrefix s.data.toList (ByteArray.mk #[35]).data.toList = false := by rw [HL.out]; exact hp
        obtain ⟨U, hU⟩ : ∃ U, (⟨(Lib.trimPrefix s.data.toList (ByteArray.mk #[35]).data.toList).toArray⟩ : ByteArray) = U := ⟨_, rfl⟩
        simp only [e2, hU] at HC
        have HRV := fun w h => iReadVal_any s w HS.out h
        rw [HL.out] at HRV
        have HTE : Hid (T = ⟨2, 0, (readV l).1⟩) := Lib.hid (by
          rw [prefix_35, decide_eq_false_iff_not] at hp
          rw [← HT.out, iTok, HO.out]
          dsimp only
          rw [if_neg hp])
        obtain ⟨⟨⟨vk, vn, vs⟩, ok⟩, hr⟩ : ∃ r, readV l = r := ⟨_, rfl⟩
        rw [hr] at HRV HTE
        dsimp only [ReadRes] at HRV HTE
        clear hp e2 hU hr
        go_wp2_with fail
        refine (HC _).mono ?_
        rintro e w0 ⟨rfl, rfl⟩
        go_wp2_with fail
        refine (HRV _ HDR.out).mono ?_
        rintro e w1 ⟨rfl, g1⟩
        have d0 := (g1.block uR).trans cR
        have v0 := Nat.lt_of_lt_of_le uR g1.size
        have GG := gR.trans g1
        obtain ⟨m0, f0⟩ := free_of d0
        clear cR mR fR HRV HC
        go_wp2_with fail
        refine bodyPost_ret (v := .agg #[.int .i64 2, .int .i64 0, .int .i64 vk, .int .i64 vn, .string vs]) (by simp [results, Tryz.results19, go_sem, m0, v0]) rfl ?_
        rw [HTE.out]
        exact ⟨rfl, (setL_grow GG (Nat.le_refl _) 0 [_, _, _, _, _]).alloc _⟩
set_option maxHeartbeats 2000000 in
set_option maxRecDepth 20000 in
theorem iReadExpr_any (s : ByteArray) (w : World) (hs : s.size ≤ 1048576) (hd : Gates w) : Calls Tryz.prog 6 #[.string s] w (ExprRes w (readE s.data.toList)) := by
  obtain ⟨l, hl⟩ : ∃ l, s.data.toList = l := ⟨_, rfl⟩
  have HL := Lib.hid hl
  have HS := Lib.hid hs
  have HDo := Lib.hid hd
  have HZ : Hid (s.size = l.length) := Lib.hid (by rw [size_list, hl])
  have HW := fun w h => split_any s w hs h
  rw [hl] at HW ⊢
  obtain ⟨ws, hws⟩ : ∃ ws, wordsL l = ws := ⟨_, rfl⟩
  have HWS := Lib.hid hws
  rw [hws] at HW
  clear hl hs hws hd
  go_enter Tryz.func6, Tryz.ntmps6
  go_upto_region 2 with (fail)
  generalize hM : World.alloc w _ = wm
  have own0 : OwnF Kd.tok 38 w wm (some ⟨w.heap.size, 0, none⟩) 0 0 [] := by rw [← hM]; exact OwnF.made (Grow.refl w)
  clear hM
  have g0 := own0.grows
  go_wp2_with fail
  have u0 : w.heap.size < wm.heap.size := own0.base.2.2
  refine (HW _ (HDo.out.grow g0)).mono ?_
  rintro e w1 ⟨n, rfl, slW, g1⟩
  obtain ⟨B, hB⟩ : ∃ B, wm.heap.size = B := ⟨_, rfl⟩
  rw [hB] at slW u0 ⊢
  have HLW : Hid (ws.length = n) := Lib.hid (by have := slW.1; rw [List.length_map] at this; exact this)
  have hcm := slW.2.2.1
  have HCE : Hid (∀ (k : Nat) (x : List UInt8), ws[k]? = some x → B < w1.heap.size ∧ w1.cell? ⟨B, k, none⟩ = some (.string (strOf x))) := Lib.hid (fun k x hx => by
    obtain ⟨hk', hxe⟩ := List.getElem?_eq_some_iff.mp hx
    have hkn : k < n := by rw [← HLW.out]; exact hk'
    obtain ⟨b, off, he, hb, hcells⟩ := slW.2.2.2 (by omega)
    simp only [Option.some.injEq, Addr.mk.injEq, and_true] at he
    obtain ⟨rfl, rfl⟩ := he
    obtain ⟨cs, hc, hr⟩ := hcells k (by rw [List.length_map]; exact hk')
    have h1 := hc 0 (by decide)
    obtain ⟨rfl, _⟩ := hr
    rw [List.getElem_map, hxe] at h1
    exact ⟨hb.2.1, by simpa [Kd.str] using h1⟩)
  clear HW slW
  go_wp2_with fail
  go_loopw [4, 6, 11] (fun sv _ iv wr => ∃ (k c' : Nat) (R : Option Addr), k ≤ n ∧ k ≤ 24 ∧ iv = .int .i64 k ∧ sv = .slice R k c' ∧ OwnF Kd.tok 38 w wr R k c' ((ws.take k).map iTok) ∧ w1.heap.size ≤ wr.heap.size ∧ Hid (blockOf R ≠ some B ∧ wr.heap[B]? = w1.heap[B]?)) (fun _ _ iv _ => n - (intOf iv).toNat)
  case atStart => exact ⟨0, 0, _, Nat.zero_le _, Nat.zero_le _, rfl, rfl, own0.grow g1, Nat.le_refl _, Lib.hid ⟨fun h => by simp only [blockOf, Option.some.injEq] at h; omega, rfl⟩⟩
  case round =>
    obtain ⟨k, c', R, hk, hk24, rfl, rfl, own, hsz, HB⟩ := hrel
    have hgw := own.grows
    unfold maxLen at hcm
    by_cases hlt : k < n
    · have i0 : (0 : Int) ≤ (k : Int) := Int.natCast_nonneg k
      have i1 : (k : Int) < (n : Int) := Int.ofNat_lt.mpr hlt
      obtain ⟨x, hx⟩ : ∃ x, ws[k]? = some x := ⟨_, List.getElem?_eq_getElem (by rw [HLW.out]; exact hlt)⟩
      have HX := Lib.hid hx
      have hxs : (strOf x).size ≤ 1048576 := by
        have h1 := wordsL_len l x (by rw [HWS.out]; exact List.mem_of_getElem? hx)
        rw [strOf_size]
        have := HS.out
        rw [HZ.out] at this
        omega
      obtain ⟨uB, hcx⟩ := HCE.out k x hx
      replace hcx := (World.cell?_of_block (w := w1) (w' := wr) (a := ⟨B, k, none⟩) HB.out.2).trans hcx
      have hbl := Nat.lt_of_lt_of_le uB hsz
      have HA := fun w h => readTok_any (strOf x) w hxs h
      rw [strOf_toList] at HA
      have HZT := iTok_size x
      obtain ⟨t, ht⟩ : ∃ t, iTok x = t := ⟨_, rfl⟩
      rw [ht] at HA HZT
      have HTK : Hid ((ws.take (k + 1)).map iTok = (ws.take k).map iTok ++ [t]) := Lib.hid (by
        obtain ⟨hk', hxe⟩ := List.getElem?_eq_some_iff.mp hx
        rw [List.take_succ_eq_append_getElem hk', List.map_append, hxe, ← ht]
        rfl)
      have hrd : ∀ V S, Kd.tok.rd V S [.int .i64 t.kind, .int .i64 t.col, .int .i64 t.v.kind, .int .i64 t.v.n, .string t.v.s] t := fun V S => ⟨rfl, HZT⟩
      clear hx hxs ht
      by_cases h24 : k = 24
      · have HF : Hid (readE l = ([], false)) := Lib.hid (readE_many (by rw [HWS.out, HLW.out]; omega))
        have j24 : ((k : Int) == 24) = true := by simp; omega
        subst h24
        go_wp2_with fail
        exact bodyPost_ret (v := .tuple #[.slice none 0 0, .bool false]) (by simp [results, Tryz.results6, go_sem]) rfl ⟨none, 0, 0, by rw [HF.out], by rw [HF.out]; exact nil_tok, hgw⟩
      · have j24 : ((k : Int) == 24) = false := by simp; omega
        go_wp2_with fail
        refine (HA _ (HDo.out.grow hgw).doors).mono ?_
        rintro e w2 ⟨rfl, g2⟩
        have own2 := own.grow g2
        have hbl2 := Nat.lt_of_lt_of_le hbl g2.size
        have HB2 : Hid (blockOf R ≠ some B ∧ (w2.alloc (.cells #[.int .i64 t.kind, .int .i64 t.col, .int .i64 t.v.kind, .int .i64 t.v.n, .string t.v.s] 38)).heap[B]? = w1.heap[B]?) := Lib.hid ⟨HB.out.1, (((Grow.refl w2).alloc _).block hbl2).trans ((g2.block hbl).trans HB.out.2)⟩
        have hsz2 := Nat.le_trans hsz g2.size
        go_wp2_with (at_builtin; refine wpList_app plain_tok ones_tok elem_tok rfl (.tmp 18) (.tmp 21) (by rfl) (by rfl) (own2.grow ((Grow.refl _).alloc _)) (by rfl) (isSl_one (by decide) (new_block _ _) (hrd _ _)) (q := k + 1) rfl (by unfold maxLen; omega) (by omega) (fun A3 c3 w4 ap => ?_))
        go_roundw
        case rel => exact ⟨k + 1, c3, A3, hlt, by omega, by go_num, rfl, by rw [HTK.out]; exact ap.own, Nat.le_trans (Nat.le_trans hsz2 ((Grow.refl w2).alloc _).size) ap.size, Lib.hid (by have h := ap.apart (Nat.lt_of_lt_of_le hbl2 ((Grow.refl w2).alloc _).size) HB2.out.1; exact ⟨h.2.1, h.2.2.trans HB2.out.2⟩)⟩
        case measure => simp [intOf]; omega
    · obtain rfl : k = n := by omega
      have htk : ws.take k = ws := List.take_of_length_le (by rw [HLW.out]; exact Nat.le_refl _)
      rw [htk] at own
      obtain ⟨ts, hts⟩ : ∃ ts, ws.map iTok = ts := ⟨_, rfl⟩
      rw [hts] at own
      have HR : Hid (readE l = if l ≠ [] ∧ k ≤ 24 ∧ textE ts = l then (ts, true) else ([], false)) := Lib.hid (by unfold readE; rw [HWS.out, HLW.out, hts])
      have HA := iExprText_any wr (own.isSl.mono (fun b hb => hb.2.1) (fun b hb => rfl)) (HDo.out.grow hgw).doors.ten
      have HTT : Hid (((strOf (textE ts)).toList == s.toList) = decide (textE ts = l)) := Lib.hid (by rw [← HL.out, ← strOf_list s, strs_eq, strOf_toList, strOf_list])
      have HE0 : Hid ((s.toList == []) = decide (l = [])) := Lib.hid (by rw [ByteArray.toList_eq, HL.out, Bool.eq_iff_iff, beq_iff_eq, decide_eq_true_eq])
      obtain ⟨T, hTe⟩ : ∃ T, strOf (textE ts) = T := ⟨_, rfl⟩
      rw [hTe] at HA HTT
      clear hTe htk hts
      cases he : (s.toList == []) with
      | true =>
        have HN : Hid (readE l = ([], false)) := Lib.hid (by
          have h1 := HE0.out
          rw [he] at h1
          rw [HR.out, if_neg (fun hx => hx.1 (of_decide_eq_true h1.symm))])
        go_wp2_with fail
        exact bodyPost_ret (v := .tuple #[.slice none 0 0, .bool false]) (by simp [results, Tryz.results6, go_sem]) rfl ⟨none, 0, 0, by rw [HN.out], by rw [HN.out]; exact nil_tok, hgw⟩
      | false =>
        go_wp2_with fail
        refine HA.mono ?_
        rintro e w2 ⟨rfl, g2⟩
        have gg := hgw.trans g2
        have hi2 := (own.grow g2).isSl
        cases ht : (T.toList == s.toList) with
        | false =>
          have HN : Hid (readE l = ([], false)) := Lib.hid (by
            have h0 := HTT.out
            rw [ht] at h0
            rw [HR.out, if_neg (fun hx => (of_decide_eq_false h0.symm) hx.2.2)])
          go_wp2_with fail
          exact bodyPost_ret (v := .tuple #[.slice none 0 0, .bool false]) (by simp [results, Tryz.results6, go_sem]) rfl ⟨none, 0, 0, by rw [HN.out], by rw [HN.out]; exact nil_tok, gg⟩
        | true =>
          have HN : Hid (readE l = (ts, true)) := Lib.hid (by
            have h0 := HTT.out
            rw [ht] at h0
            have h1 := HE0.out
            rw [he] at h1
            rw [HR.out, if_pos ⟨of_decide_eq_false h1.symm, hk24, of_decide_eq_true h0.symm⟩])
          go_wp2_with fail
          exact bodyPost_ret (v := .tuple #[.slice R k c', .bool true]) (by simp [results, Tryz.results6, go_sem]) rfl ⟨R, k, c', by rw [HN.out], by rw [HN.out]; exact hi2, gg⟩
end Go.Proofs.YtdgmoplfiodahaaGreatDoor
