import Derived.Test.YtdgmoplfiodahaaGreatDoorTextF
/-! ExprText of the reference and of the program, walked. -/
namespace Go.Proofs.YtdgmoplfiodahaaGreatDoor
open Go.RowKit
set_option linter.unusedVariables false
set_option linter.unusedSimpArgs false
theorem blank_app (L : List UInt8) : strOf L ++ { data := #[32] } = strOf (L ++ [32]) := strOf_app L [32]
theorem take_word {e : List Tok} {k : Nat} {x : Tok} (h : e[k]? = some x) : (e.take (k + 1)).map wordL = (e.take k).map wordL ++ [wordL x] := by
  obtain ⟨hk, rfl⟩ := List.getElem?_eq_some_iff.mp h
  rw [List.take_succ_eq_append_getElem hk, List.map_append]; rfl
theorem take_fit {e : List Tok} (h : ∀ t ∈ e, isTokB t 16 = true) (hl : e.length ≤ 24) (k : Nat) : (joinL ((e.take k).map wordL)).length ≤ 984 := by
  have h1 := joinL_len (ws := (e.take k).map wordL) (fun w hw => by
    obtain ⟨t, ht, rfl⟩ := List.mem_map.mp hw
    exact word_len (h t (List.mem_of_mem_take ht)))
  rw [List.length_map, List.length_take] at h1
  omega
set_option maxHeartbeats 2000000 in
set_option maxRecDepth 20000 in
theorem sExprText_any {A : Option Addr} {len cap : Nat} {e : List Tok} (w : World) (h : IsSl Kd.tok w (· < w.heap.size) A len cap e) : Calls Tryz.prog 13 #[.slice A len cap] w (Ret w (.string (strOf (textE e)))) := by
  have hlen : len ≤ maxLen := Nat.le_trans h.2.1 h.2.2.1
  have HE := Lib.hid h.1
  obtain ⟨q, hq⟩ : ∃ q, exprB 16 e = q := ⟨_, rfl⟩
  have HQ := Lib.hid hq
  cases q with
  | false =>
    go_enter Tryz.func13, Tryz.ntmps13
    go_wp2_with fail
    refine (sExprOk_any 16 _ h).mono ?_
    rw [hq]
    rintro e1 w1 ⟨rfl, g1⟩
    go_wp2
    go_ret
    exact ⟨by unfold textE; rw [if_neg (by rw [HQ.out]; decide)]; rfl, g1⟩
  | true =>
    obtain ⟨_, p2, p3⟩ := expr_parts hq
    have HP3 := Lib.hid p3
    have HP2 := Lib.hid p2
    clear p2 p3
    go_enter Tryz.func13, Tryz.ntmps13
    go_wp2_with fail
    refine (sExprOk_any 16 _ h).mono ?_
    rw [hq]
    rintro e1 w1 ⟨rfl, g1⟩
    clear hq
    go_wp2_with fail
    go_loopw [3, 4] (fun sv iv wr => ∃ k : Nat, k ≤ len ∧ iv = .int .i64 k ∧ sv = .string (strOf (joinL ((e.take k).map wordL))) ∧ Grow w1 wr) (fun _ iv _ => len - (intOf iv).toNat)
    case atStart => exact ⟨0, Nat.zero_le _, rfl, rfl, Grow.refl _⟩
    case round =>
      obtain ⟨k, hk, rfl, rfl, hg⟩ := hrel
      unfold maxLen at hlen
      by_cases hlt : k < len
      · obtain ⟨b, off, x, rfl, hx, _, hb, hxs, c0, c1, c2, c3, c4, hrd⟩ := tok_at (h.grow (g1.trans hg)) hlt
        have i0 : (0 : Int) ≤ (k : Int) := Int.natCast_nonneg k
        have i1 : (k : Int) < (len : Int) := Int.ofNat_lt.mpr hlt
        have HXT := HP3.out x (List.mem_of_getElem? hx.out)
        have HTK := Lib.hid (take_word hx.out)
        have HL0 : Hid (k = 0 → (e.take k).map wordL = []) := Lib.hid (by rintro rfl; rfl)
        have HL1 : Hid (k ≠ 0 → (e.take k).map wordL ≠ []) := Lib.hid (by
          intro h0 h1
          have := congrArg List.length h1
          rw [List.length_map, List.length_take, HE.out] at this
          simp at this; omega)
        have HFT := take_fit HP3.out HP2.out k
        have HWL := word_len HXT
        have HC := fun w => l2Word_any x w HXT
        obtain ⟨ws, hws⟩ : ∃ ws, (e.take k).map wordL = ws := ⟨_, rfl⟩
        rw [hws] at HTK HL0 HL1 HFT ⊢
        obtain ⟨L, hL⟩ : ∃ L, joinL ws = L := ⟨_, rfl⟩
        have HL := Lib.hid hL
        rw [hL] at HFT ⊢
        obtain ⟨X, hX⟩ : ∃ X, wordL x = X := ⟨_, rfl⟩
        rw [hX] at HTK HWL HC
        have hz : ∀ l, (strOf l).size = l.length := strOf_size
        have y1 : L.length + 1 ≤ 9223372036854775807 := fits (by omega)
        have y2 : L.length + 1 + X.length ≤ 9223372036854775807 := fits (by omega)
        have y3 : L.length + X.length ≤ 9223372036854775807 := fits (by omega)
        clear hws hL hX HFT HWL HXT
        by_cases hk0 : k = 0
        · have j0 : ¬ (0 : Int) < (k : Int) := by omega
          have HS : Hid (strOf L ++ strOf X = strOf (joinL ((e.take (k + 1)).map wordL))) := Lib.hid (by
            have h0 := HL0.out hk0
            have h1 : joinL [X] = X := Lib.join_one X [32]
            rw [strOf_app, HTK.out, h0, List.nil_append, h1, ← HL.out, h0]; rfl)
          clear hk0
          go_wp2_with fail
          refine (HC _).mono ?_
          rintro e1 w2 ⟨rfl, g2⟩
          go_wp2
          exact ⟨⟨k + 1, hlt, by go_num, by rw [HS.out], hg.trans g2⟩, by simp [intOf]; omega⟩
        · have j0 : (0 : Int) < (k : Int) := by omega
          have HS : Hid (strOf (L ++ [32]) ++ strOf X = strOf (joinL ((e.take (k + 1)).map wordL))) := Lib.hid (by
            rw [strOf_app, HTK.out, joinL_snoc _ (HL1.out hk0), HL.out]; simp)
          clear hk0
          go_wp2_with fail
          refine (HC _).mono ?_
          rintro e1 w2 ⟨rfl, g2⟩
          go_wp2
          exact ⟨⟨k + 1, hlt, by go_num, by rw [blank_app, HS.out], hg.trans g2⟩, by simp [intOf]; omega⟩
      · obtain rfl : k = len := by omega
        have ht : e.take k = e := List.take_of_length_le (by rw [HE.out]; exact Nat.le_refl _)
        rw [ht]
        have HR : Hid (textE e = joinL (e.map wordL)) := Lib.hid (by unfold textE; rw [if_pos HQ.out])
        clear ht
        go_wp2
        go_ret
        exact ⟨by rw [HR.out]; rfl, g1.trans hg⟩
theorem info_strE : (Tryz.prog.info? 9).map (fun i => (i.zero, i.size, i.bytes)) = some (some (.string ⟨#[]⟩), 1, 16) := by kernel_rfl
theorem elem_strE : ElemOk Tryz.prog 33 9 1 16 := elemOk_of Tryz.underlying33 info_strE rfl (by decide)
theorem take_str {e : List Tok} {k : Nat} {x : Tok} (h : e[k]? = some x) : (e.take (k + 1)).map (fun t => strOf (wordL t)) = (e.take k).map (fun t => strOf (wordL t)) ++ [strOf (wordL x)] := by
  obtain ⟨hk, rfl⟩ := List.getElem?_eq_some_iff.mp h
  rw [List.take_succ_eq_append_getElem hk, List.map_append]; rfl
set_option maxHeartbeats 2000000 in
set_option maxRecDepth 20000 in
theorem iExprText_any {A : Option Addr} {len cap : Nat} {e : List Tok} (w : World) (h : IsSl Kd.tok w (· < w.heap.size) A len cap e) (hp : Pow10 w) : Calls Tryz.prog 12 #[.slice A len cap] w (Ret w (.string (strOf (textE e)))) := by
  have hlen : len ≤ maxLen := Nat.le_trans h.2.1 h.2.2.1
  have HE := Lib.hid h.1
  have HP := Lib.hid hp
  clear hp
  obtain ⟨q, hq⟩ : ∃ q, exprB 16 e = q := ⟨_, rfl⟩
  have HQ := Lib.hid hq
  cases q with
  | false =>
    go_enter Tryz.func12, Tryz.ntmps12
    go_wp2_with fail
    refine (iExprOk_any 16 _ h).mono ?_
    rw [hq]
    rintro e1 w1 ⟨rfl, g1⟩
    go_wp2
    go_ret
    exact ⟨by unfold textE; rw [if_neg (by rw [HQ.out]; decide)]; rfl, g1⟩
  | true =>
    obtain ⟨p1, p2, p3⟩ := expr_parts hq
    have HP3 := Lib.hid p3
    have HP2 := Lib.hid p2
    have HP1 := Lib.hid p1
    clear p1 p2 p3
    go_enter Tryz.func12, Tryz.ntmps12
    go_wp2_with fail
    refine (iExprOk_any 16 _ h).mono ?_
    rw [hq]
    rintro e1 w1 ⟨rfl, g1⟩
    clear hq
    go_wp2_with fail
    go_loopw [3, 12] (fun sv iv wr => ∃ (k c : Nat) (Q : Option Addr), k ≤ len ∧ iv = .int .i64 k ∧ sv = .slice Q k c ∧ OwnF Kd.str 9 w1 wr Q k c ((e.take k).map (fun t => strOf (wordL t)))) (fun _ iv _ => len - (intOf iv).toNat)
    case atStart => exact ⟨0, 0, _, Nat.zero_le _, rfl, rfl, OwnF.made (Grow.refl w1)⟩
    case round =>
      obtain ⟨k, cp, Q, hk, rfl, rfl, own⟩ := hrel
      have hg := own.grows
      unfold maxLen at hlen
      have h24 : len ≤ 24 := by rw [← HE.out]; exact HP2.out
      by_cases hlt : k < len
      · obtain ⟨b, off, x, rfl, hx, _, hb, hxs, c0, c1, c2, c3, c4, hrd⟩ := tok_at (h.grow (g1.trans hg)) hlt
        have i0 : (0 : Int) ≤ (k : Int) := Int.natCast_nonneg k
        have i1 : (k : Int) < (len : Int) := Int.ofNat_lt.mpr hlt
        have HXT := HP3.out x (List.mem_of_getElem? hx.out)
        have HTK := Lib.hid (take_str hx.out)
        have HWL : Hid ((strOf (wordL x)).size ≤ maxLen) := Lib.hid (by have := word_len HXT; rw [strOf_size]; unfold maxLen; omega)
        have HC := fun w h => wordOf_any x w HXT h
        obtain ⟨X, hX⟩ : ∃ X, strOf (wordL x) = X := ⟨_, rfl⟩
        rw [hX] at HTK HWL HC
        clear hX HXT
        go_wp2_with fail
        generalize hW2 : World.alloc wr _ = W2
        obtain ⟨gW2, sW2, kW2⟩ := boxed1 hW2
        clear hW2
        refine (HC _ (HP.out.grow (g1.trans (hg.trans gW2)))).mono ?_
        rintro e1 w3 ⟨rfl, g3⟩
        have own3 := own.grow (gW2.trans g3)
        go_wp2_with (at_builtin; refine wpList_app plain_str ones_str elem_strE rfl (.tmp 16) (.tmp 19) (by rfl) (by rfl) (own3.grow ((Grow.refl _).alloc _)) (by rfl) (isSl_one (by decide) (new_block _ _) ⟨rfl, HWL.out⟩) (q := k + 1) rfl (by unfold maxLen; omega) (by omega) (fun A3 c3 w4 ap => ?_))
        go_roundw
        case rel => exact ⟨k + 1, c3, A3, hlt, by go_num, rfl, by rw [HTK.out]; exact ap.own.low (Grow.refl _)⟩
        case measure => simp [intOf]; omega
      · obtain rfl : k = len := by omega
        have ht : e.take k = e := List.take_of_length_le (by rw [HE.out]; exact Nat.le_refl _)
        rw [ht] at own
        have hpos : 0 < k := by rw [← HE.out]; exact List.length_pos_iff.mpr HP1.out
        have hcap := own.le
        obtain ⟨bq, oq, rfl, hbq, hcells⟩ := own.isSl.2.2.2 (by exact hpos)
        have hnl : (e.map (fun t => strOf (wordL t))).length = k := by rw [List.length_map, HE.out]
        have hJ := Tryz.strings_Join bq oq cp (e.map (fun t => strOf (wordL t))) ⟨#[32]⟩ wr (fun j x hj => by
            obtain ⟨hjl, rfl⟩ := List.getElem?_eq_some_iff.mp hj
            obtain ⟨cs, hc, hr⟩ := hcells j hjl
            have h1 := hc 0 (by decide)
            obtain ⟨rfl, _⟩ := hr
            simpa [Kd.str] using h1) hbq.2.1 (by rw [hnl]; omega) (by rw [hnl]; exact hcap.1) (by
            have h1 := take_fit HP3.out HP2.out k
            rw [ht] at h1
            rw [List.map_map]
            have h2 : (fun x => x.data.toList) ∘ (fun t => strOf (wordL t)) = wordL := funext fun t => strOf_toList _
            rw [h2]
            exact Nat.le_trans h1 (by decide))
        rw [hnl] at hJ
        have HR : Hid ((⟨(Lib.join ((e.map (fun t => strOf (wordL t))).map (·.data.toList)) (⟨#[32]⟩ : ByteArray).data.toList).toArray⟩ : ByteArray) = strOf (textE e)) := Lib.hid (by
          unfold textE
          rw [if_pos HQ.out, List.map_map]
          have h2 : (fun x => x.data.toList) ∘ (fun t => strOf (wordL t)) = wordL := funext fun t => strOf_toList _
          rw [h2]; rfl)
        rw [HR.out] at hJ
        clear ht hcells hnl hbq own
        go_wp2_with fail
        refine hJ.mono ?_
        rintro e1 w2 ⟨rfl, g2⟩
        go_wp2
        go_ret
        exact ⟨rfl, g1.trans (hg.trans g2)⟩
end Go.Proofs.YtdgmoplfiodahaaGreatDoor
