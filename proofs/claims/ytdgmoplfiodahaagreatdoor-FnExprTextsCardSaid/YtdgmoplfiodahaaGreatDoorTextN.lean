import Derived.Test.YtdgmoplfiodahaaGreatDoorTextM
/-! ReadExpr of the reference, walked. -/
namespace Go.Proofs.YtdgmoplfiodahaaGreatDoor
open Go.RowKit
set_option linter.unusedVariables false
set_option linter.unusedSimpArgs false
/-- What ReadExpr hands back. -/
def ExprRes (w : World) (r : List Tok × Bool) (e : Ending) (w' : World) : Prop := ∃ (Q : Option Addr) (n c : Nat), e = .returned (.tuple #[.slice Q n c, .bool r.2]) ∧ IsSl Kd.tok w' (Fresh w.heap.size w') Q n c r.1 ∧ Grow w w'
theorem new_block2 (w : World) (o1 o2 : Obj) : ((w.alloc o1).alloc o2).heap[w.heap.size + 1]? = some o2 := by
  have := new_block (w.alloc o1) o2
  simpa using this
theorem nil_tok {w : World} {S : Nat → Prop} : IsSl Kd.tok w S none 0 0 [] := ⟨rfl, Nat.le_refl _, Nat.zero_le _, fun h => absurd h (Nat.lt_irrefl _)⟩
theorem wordsL_len (l : List UInt8) : ∀ w ∈ wordsL l, w.length ≤ l.length := by
  induction l with
  | nil => intro w hw; simp [wordsL] at hw; subst hw; simp
  | cons c r ih =>
    intro w hw
    unfold wordsL at hw
    split at hw
    · rcases List.mem_cons.mp hw with rfl | h
      · simp
      · have := ih w h; simp only [List.length_cons]; omega
    · split at hw
      · rcases List.mem_cons.mp hw with rfl | h
        · simp
        · cases h
      · rename_i x xs he
        rcases List.mem_cons.mp hw with rfl | h
        · have := ih x (by rw [he]; simp); simp only [List.length_cons]; omega
        · have := ih w (by rw [he]; simp [h]); simp only [List.length_cons]; omega
theorem readV_size {l : List UInt8} (h : (readV l).2 = true) : (readV l).1.s.size ≤ 12 := by
  unfold readV at h ⊢
  split
  · rename_i h'
    have hok := text_ok (v := iCand l) (by rw [h'.2]; exact h'.1)
    dsimp only
    rcases ok_cases hok with e | ⟨n, _, _, e⟩ | ⟨s, hs, e⟩
    · rw [e]; exact Nat.zero_le _
    · rw [e]; exact Nat.zero_le _
    · rw [e]; exact hs
  · exact Nat.zero_le _
theorem sTok_size {l : List UInt8} {t : Tok} (h : sTok l = some t) : t.v.s.size ≤ maxLen := by
  have h12 : (12 : Nat) ≤ maxLen := by unfold maxLen; decide
  have h0 : (ByteArray.mk #[]).size ≤ maxLen := Nat.zero_le _
  unfold sTok at h
  split at h
  · injection h with h; subst h; exact h0
  · split at h
    · cases hn : numV l.tail with
      | none => rw [hn] at h; cases h
      | some n => rw [hn] at h; injection h with h; subst h; exact h0
    · split at h
      · rename_i hr; injection h with h; subst h; exact Nat.le_trans (readV_size hr) h12
      · cases h
set_option maxHeartbeats 2000000 in
set_option maxRecDepth 20000 in
theorem sReadExpr_any (s : ByteArray) (w : World) (hs : s.size ≤ 1048576) : Calls Tryz.prog 5 #[.string s] w (ExprRes w (readE s.data.toList)) := by
  obtain ⟨l, hl⟩ : ∃ l, s.data.toList = l := ⟨_, rfl⟩
  have HL := Lib.hid hl
  have HS := Lib.hid hs
  have HZ : Hid (s.size = l.length) := Lib.hid (by rw [size_list, hl])
  have HW := fun w => l1Words_any s w hs
  rw [hl] at HW ⊢
  obtain ⟨ws, hws⟩ : ∃ ws, wordsL l = ws := ⟨_, rfl⟩
  have HWS := Lib.hid hws
  rw [hws] at HW
  clear hl hs hws
  go_enter Tryz.func5, Tryz.ntmps5
  go_wp2_with fail
  refine (HW _).mono ?_
  rintro e w1 ⟨Q, n, c, rfl, ownW⟩
  have g1 := ownW.grows
  have hsl := ownW.isSl
  have HLW : Hid (ws.length = n) := Lib.hid (by have := ownW.len; rw [List.length_map] at this; exact this)
  have hnc := hsl.2.1
  have hcm := hsl.2.2.1
  clear HW
  go_wp2_with fail
  go_loopw [5, 6, 7, 8] (fun sv iv _ _ wr => ∃ (k c' : Nat) (R : Option Addr) (ts : List Tok), k ≤ n ∧ k ≤ 24 ∧ iv = .int .i64 k ∧ sv = .slice R k c' ∧ OwnF Kd.tok 38 w1 wr R k c' ts ∧ Hid ((ws.take k).map sTok = ts.map some)) (fun _ iv _ _ _ => n - (intOf iv).toNat)
  case atStart => exact ⟨0, 0, _, [], Nat.zero_le _, Nat.zero_le _, rfl, rfl, OwnF.made (Grow.refl w1), Lib.hid rfl⟩
  case round =>
    obtain ⟨k, c', R, ts, hk, hk24, rfl, rfl, own, HT⟩ := hrel
    have hg := own.grows
    unfold maxLen at hcm
    by_cases hlt : k < n
    · have i0 : (0 : Int) ≤ (k : Int) := Int.natCast_nonneg k
      have i1 : (k : Int) < (n : Int) := Int.ofNat_lt.mpr hlt
      obtain ⟨x, hx⟩ : ∃ x, ws[k]? = some x := ⟨_, List.getElem?_eq_getElem (by rw [HLW.out]; exact hlt)⟩
      have HX := Lib.hid hx
      have hxs : (strOf x).size ≤ 1048576 := by
        have h1 := wordsL_len l x (by rw [HWS.out]; exact List.mem_of_getElem? hx)
        rw [strOf_size]
        have := HS.out
        rw [HZ.out] at this
        omega
      obtain ⟨b, off, rfl, hb, hcells⟩ := (ownW.grow hg).isSl.2.2.2 (by omega)
      have hcx : wr.cell? ⟨b, off + k, none⟩ = some (.string (strOf x)) := by
        obtain ⟨cs, hc, hr⟩ := hcells k (by rw [List.length_map, HLW.out]; exact hlt)
        have h1 := hc 0 (by decide)
        obtain ⟨rfl, _⟩ := hr
        have h2 : (ws.map strOf)[k]'(by rw [List.length_map, HLW.out]; exact hlt) = strOf x := by
          obtain ⟨hk', rfl⟩ := List.getElem?_eq_some_iff.mp hx
          simp
        rw [h2] at h1
        simpa [Kd.str] using h1
      have hbl := hb.2.1
      have HA := fun w => l2Read_any (strOf x) w hxs
      rw [strOf_toList] at HA
      clear hcells hx hxs
      go_wp2_with fail
      refine (HA _).mono ?_
      rintro e w2 ⟨t, ok, rfl, hok, g2⟩
      have own2 := own.grow g2
      have gg := g1.trans (hg.trans g2)
      rcases hok with ⟨rfl, hst⟩ | ⟨rfl, hst⟩
      · have HST := Lib.hid hst
        clear hst
        by_cases h24 : k = 24
        · have HF : Hid (readE l = ([], false)) := Lib.hid (readE_many (by rw [HWS.out, HLW.out]; omega))
          have j24 : ((k : Int) == 24) = true := by simp; omega
          subst h24
          go_wp2_with fail
          exact bodyPost_ret (v := .tuple #[.slice none 0 0, .bool false]) (by simp [results, Tryz.results5, go_sem]) rfl ⟨none, 0, 0, by rw [HF.out], by rw [HF.out]; exact nil_tok, gg.alloc _⟩
        · have j24 : ((k : Int) == 24) = false := by simp; omega
          have hrd : ∀ V S, Kd.tok.rd V S [.int .i64 t.kind, .int .i64 t.col, .int .i64 t.v.kind, .int .i64 t.v.n, .string t.v.s] t := fun V S => ⟨rfl, sTok_size HST.out⟩
          have HT2 : Hid ((ws.take (k + 1)).map sTok = (ts ++ [t]).map some) := Lib.hid (by
            obtain ⟨hk', hxe⟩ := List.getElem?_eq_some_iff.mp HX.out
            rw [List.take_succ_eq_append_getElem hk', List.map_append, HT.out, hxe, List.map_append]
            simp [HST.out])
          go_wp2_with (at_builtin; refine wpList_app plain_tok ones_tok elem_tok rfl (.tmp 33) (.tmp 35) (by rfl) (by rfl) (own2.grow (((Grow.refl _).alloc _).alloc _)) (by rfl) (isSl_one (by decide) (new_block2 _ _ _) (hrd _ _)) (q := k + 1) rfl (by unfold maxLen; omega) (by omega) (fun A3 c3 w4 ap => ?_))
          go_roundw
          case rel => exact ⟨k + 1, c3, A3, ts ++ [t], hlt, by omega, by go_num, rfl, ap.own.low (Grow.refl _), HT2⟩
          case measure => simp [intOf]; omega
      · have HF : Hid (readE l = ([], false)) := Lib.hid (readE_word (w := x) (by rw [HWS.out]; exact List.mem_of_getElem? HX.out) hst)
        clear hst
        go_wp2_with fail
        exact bodyPost_ret (v := .tuple #[.slice none 0 0, .bool false]) (by simp [results, Tryz.results5, go_sem]) rfl ⟨none, 0, 0, by rw [HF.out], by rw [HF.out]; exact nil_tok, gg.alloc _⟩
    · obtain rfl : k = n := by omega
      have htk : ws.take k = ws := List.take_of_length_le (by rw [HLW.out]; exact Nat.le_refl _)
      have HR : Hid (readE l = if textE ts = l ∧ l ≠ [] then (ts, true) else ([], false)) := Lib.hid (readE_all (by rw [HWS.out, ← HT.out, htk]))
      have HA := sExprText_any wr (own.isSl.mono (fun b hb => hb.2.1) (fun b hb => rfl))
      have HTT : Hid (((strOf (textE ts)).toList == s.toList) = decide (textE ts = l)) := Lib.hid (by rw [← HL.out, ← strOf_list s, strs_eq, strOf_toList, strOf_list])
      have HE0 : Hid ((s.toList == []) = decide (l = [])) := Lib.hid (by rw [ByteArray.toList_eq, HL.out, Bool.eq_iff_iff, beq_iff_eq, decide_eq_true_eq])
      obtain ⟨T, hTe⟩ : ∃ T, strOf (textE ts) = T := ⟨_, rfl⟩
      rw [hTe] at HA HTT
      clear hTe htk
      have hi := (own.low g1).isSl
      go_wp2_with fail
      refine HA.mono ?_
      rintro e w2 ⟨rfl, g2⟩
      have gg := g1.trans (hg.trans g2)
      have hi2 := ((own.grow g2).low g1).isSl
      cases ht : (T.toList == s.toList) with
      | false =>
        have HN : Hid (readE l = ([], false)) := Lib.hid (by
          have h0 := HTT.out
          rw [ht] at h0
          rw [HR.out, if_neg (fun hx => (of_decide_eq_false h0.symm) hx.1)])
        go_wp2_with fail
        exact bodyPost_ret (v := .tuple #[.slice none 0 0, .bool false]) (by simp [results, Tryz.results5, go_sem]) rfl ⟨none, 0, 0, by rw [HN.out], by rw [HN.out]; exact nil_tok, gg⟩
      | true =>
        have h0 := HTT.out
        rw [ht] at h0
        cases he : (s.toList == []) with
        | true =>
          have HN : Hid (readE l = ([], false)) := Lib.hid (by
            have h1 := HE0.out
            rw [he] at h1
            rw [HR.out, if_neg (fun hx => hx.2 (of_decide_eq_true h1.symm))])
          clear h0
          go_wp2_with fail
          exact bodyPost_ret (v := .tuple #[.slice none 0 0, .bool false]) (by simp [results, Tryz.results5, go_sem]) rfl ⟨none, 0, 0, by rw [HN.out], by rw [HN.out]; exact nil_tok, gg⟩
        | false =>
          have HN : Hid (readE l = (ts, true)) := Lib.hid (by
            have h1 := HE0.out
            rw [he] at h1
            rw [HR.out, if_pos ⟨of_decide_eq_true h0.symm, of_decide_eq_false h1.symm⟩])
          clear h0
          go_wp2_with fail
          exact bodyPost_ret (v := .tuple #[.slice R k c', .bool true]) (by simp [results, Tryz.results5, go_sem]) rfl ⟨R, k, c', by rw [HN.out], by rw [HN.out]; exact hi2, gg⟩
end Go.Proofs.YtdgmoplfiodahaaGreatDoor
