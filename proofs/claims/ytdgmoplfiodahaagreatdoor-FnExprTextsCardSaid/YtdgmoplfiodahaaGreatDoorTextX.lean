import Derived.Test.YtdgmoplfiodahaaGreatDoorTextW
import Derived.Test.YtdgmoplfiodahaaGreatDoorLaidD
import Derived.Lib.AtoiErrMem
/-! The program's ReadVal, walked. -/
namespace Go.Proofs.YtdgmoplfiodahaaGreatDoor
open Go.RowKit
set_option linter.unusedVariables false
set_option linter.unusedSimpArgs false
/-- The library's tables and errors stand as their initialisers lay them. -/
structure Doors (w : World) : Prop where
  ten : Pow10 w
  syn : ∃ t p, w.cell? ⟨1, 0, none⟩ = some (.iface t p)
  rng : ∃ t p, w.cell? ⟨2, 0, none⟩ = some (.iface t p)
theorem cell_grow {w w' : World} {b : Nat} {v : Value} (hg : Grow w w') (h : w.cell? ⟨b, 0, none⟩ = some v) : w'.cell? ⟨b, 0, none⟩ = some v := by
  rcases Nat.lt_or_ge b w.heap.size with h' | h'
  · rw [hg.same b 0 h', h]
  · exfalso
    simp [World.cell?, Array.getElem?_eq_none h'] at h
theorem Doors.grow {w w' : World} (h : Doors w) (hg : Grow w w') : Doors w' :=
  ⟨h.ten.grow hg, h.syn.imp fun t x => x.imp fun p y => cell_grow hg y, h.rng.imp fun t x => x.imp fun p y => cell_grow hg y⟩
theorem errvar_of {W : World} {l : List (String × DataW Unit)} {n nm : String} {d : DataW Unit} (h : laidMet Tryz.prog l W) (hm : (n, DataW.iface nm d) ∈ l) {g : Nat} {ti : TypeId} {ms : Array (String × TypeId)}
    (hg : Tryz.prog.globalNamed n = some g) (ht : (Tryz.prog.globals[g]?).map (·.type) = some ti) (hi : Tryz.prog.underlying ti = some (.interface ms)) : ∃ t p, W.cell? ⟨g, 0, none⟩ = some (.iface t p) := by
  obtain ⟨ps, h, _⟩ := h
  obtain ⟨g', t', cs, fuel, p, h1, h2, h3, h4, _⟩ := laidVars_at h hm
  obtain rfl := Option.some.inj (hg.symm.trans h1)
  obtain rfl := Option.some.inj (ht.symm.trans h2)
  obtain ⟨f1, u, v, e, _, _⟩ := iface_of_trod hi h4
  obtain ⟨cs⟩ := cs
  dsimp only at e
  subst e
  exact ⟨u, v, by simpa using World.var?_cell hg h3 0⟩
theorem put_one {w V : World} {b : Nat} {d : Array Value} {c : Array Value} {T U : TypeId} (hg : Grow w V) (hb : w.heap.size ≤ b) (h0 : V.heap[b]? = some (.cells c U (0, 0))) (h : V.heap[b + 1]? = some (.cells d T (0, 0))) (o : Nat) (x : Value) {X : World}
    (hX : V.setCell ⟨b + 1, o, none⟩ x = X) : Grow w X ∧ b < X.heap.size ∧ b + 1 < X.heap.size ∧ X.heap[b]? = some (.cells c U (0, 0)) ∧ X.heap[b + 1]? = some (.cells (d.setIfInBounds o x) T (0, 0)) := by
  subst hX
  have h1 : b + 1 < V.heap.size := by
    rcases Nat.lt_or_ge (b + 1) V.heap.size with h' | h'
    · exact h'
    · simp [Array.getElem?_eq_none h'] at h
  have e : (V.setCell ⟨b + 1, o, none⟩ x).heap.size = V.heap.size := setL_size V (b + 1) o [x]
  exact ⟨setL_grow hg (Nat.le_succ_of_le hb) o [x], by omega, by omega, (setL_other V (b + 1) (by omega) o [x]).trans h0, setL_own h o [x]⟩
theorem pint_any (s : ByteArray) (w : World) (hs : s.size ≤ 1048576) (hd : Doors w) : Calls Tryz.prog 36 #[.string s, .int .i64 10, .int .i64 64] w (fun e w' => ∃ ev, e = .returned (.tuple #[.int .i64 (pint s.data.toList), ev]) ∧ Grow w w') := by
  obtain ⟨t2, p2, h2⟩ := hd.syn
  obtain ⟨t3, p3, h3⟩ := hd.rng
  unfold pint
  cases h : Lib.parseIntB 64 s.data.toList with
  | ok v =>
    refine (Tryz.strconv_ParseInt_10_at64_ok s (Nat.le_trans hs (by decide)) v h w).mono ?_
    rintro e w' ⟨rfl, rfl | ⟨t, rfl⟩⟩
    · exact ⟨_, rfl, Grow.refl _⟩
    · exact ⟨_, rfl, Lib.bytesWorld_below w _ _⟩
  | range =>
    refine (Tryz.strconv_ParseInt_10_at64_range s (Nat.le_trans hs (by decide)) h _ w h3 (.inr ⟨_, _, rfl⟩)).mono ?_
    rintro e w' ⟨N, rfl, _, _, hb⟩
    exact ⟨_, rfl, hb⟩
  | _ =>
    refine (Any.strconv_ParseInt_10_at64_syntax Tryz.laysC174 s (Nat.le_trans hs (by decide)) h _ w h2 (.inr ⟨_, _, rfl⟩)).mono ?_
    rintro e w' ⟨N, rfl, _, _, hb⟩
    exact ⟨_, rfl, hb⟩
theorem prefix_39 (l : List UInt8) : Lib.hasPrefix l [39] = decide (l.head? = some 39) := by
  cases l with
  | nil => rfl
  | cons a r =>
    simp only [Lib.hasPrefix, List.isPrefixOf, List.head?_cons, Option.some.injEq, Bool.and_true]
    rw [Bool.eq_iff_iff, beq_iff_eq, decide_eq_true_eq]
    exact eq_comm
theorem str_none {s : ByteArray} : (s.toList == []) = decide (s.data.toList = []) := by
  rw [ByteArray.toList_eq, Bool.eq_iff_iff, beq_iff_eq, decide_eq_true_eq]
theorem readV_iff {l : List UInt8} {v : Val} (h : iCand l = v) : readV l = if l ≠ [] ∧ textL v = l then (v, true) else (zeroV, false) := by subst h; rfl
set_option maxHeartbeats 2000000 in
set_option maxRecDepth 20000 in
theorem iReadVal_any (s : ByteArray) (w : World) (hs : s.size ≤ 1048576) (hd : Doors w) : Calls Tryz.prog 37 #[.string s] w (ReadRes w (readV s.data.toList)) := by
  obtain ⟨l, hl⟩ : ∃ l, s.data.toList = l := ⟨_, rfl⟩
  have HL := Lib.hid hl
  have HS := Lib.hid hs
  have HDo := Lib.hid hd
  have HEM : Hid ((s.toList == []) = decide (l = [])) := Lib.hid (by rw [str_none, hl])
  rw [hl]
  clear hl hs hd
  go_enter Tryz.func37, Tryz.ntmps37
  go_upto_region 4 with (fail)
  generalize hW : World.alloc (World.alloc w _) _ = W
  obtain ⟨gX, u2, u4, c2, c4⟩ := boxedB2 hW
  clear hW
  cases hn : (s.toList == [110, 117, 108, 108]) with
  | true =>
    have HE : Hid (l = nullL) := Lib.hid (by rw [str_nullL, HL.out, decide_eq_true_eq] at hn; exact hn)
    have HR : Hid (readV l = if l ≠ [] ∧ textL ⟨0, 0, ⟨#[]⟩⟩ = l then (⟨0, 0, ⟨#[]⟩⟩, true) else (zeroV, false)) := Lib.hid (readV_iff (by rw [HE.out]; rfl))
    have HT : Hid (((strOf (textL ⟨0, 0, ⟨#[]⟩⟩)).toList == s.toList) = decide (textL ⟨0, 0, ⟨#[]⟩⟩ = l)) := Lib.hid (by rw [← HL.out, ← strOf_list s, strs_eq, strOf_toList, strOf_list])
    have HDX := Lib.hid (HDo.out.grow gX)
    obtain ⟨m2, e2⟩ := free_of c2
    obtain ⟨m4, e4⟩ := free_of c4
    cases he : (s.toList == []) with
    | true =>
      go_wp2_with fail
      refine bodyPost_ret (v := .tuple #[.agg #[.int .i64 0, .int .i64 0, .string ⟨#[]⟩], .bool false]) (by simp [results, Tryz.results37, go_sem, m2]) rfl ?_
      rw [HR.out, if_neg (by have h0 := HEM.out; rw [he] at h0; exact fun hx => hx.1 (of_decide_eq_true h0.symm))]
      exact ⟨rfl, setL_grow gX (Nat.le_refl _) 0 [_, _, _]⟩
    | false =>
      go_wp2_with fail
      refine (iValText_any ⟨0, 0, ⟨#[]⟩⟩ _ HDX.out.ten).mono ?_
      rintro e w3 ⟨rfl, g3⟩
      have GR := gX.trans g3
      have p2 := (g3.block u2).trans c2
      have p4 := (g3.block u4).trans c4
      obtain ⟨q2, y2⟩ := free_of p2
      obtain ⟨q4, y4⟩ := free_of p4
      have v2 := Nat.lt_of_lt_of_le u2 g3.size
      have v4 := Nat.lt_of_lt_of_le u4 g3.size
      have HNE : Hid (l ≠ []) := Lib.hid (by have h0 := HEM.out; rw [he] at h0; exact of_decide_eq_false h0.symm)
      obtain ⟨T, hT⟩ : ∃ T, strOf (textL ⟨0, 0, ⟨#[]⟩⟩) = T := ⟨_, rfl⟩
      rw [hT] at HT ⊢
      clear hT m2 e2 m4 e4
      cases ht : (T.toList == s.toList) with
      | true =>
        go_wp2_with fail
        have hTl := HT.out
        rw [ht] at hTl
        refine bodyPost_ret (v := .tuple #[.agg #[.int .i64 0, .int .i64 0, .string ⟨#[]⟩], .bool true]) (by simp [results, Tryz.results37, go_sem, q2, q4]) rfl ?_
        rw [HR.out, if_pos ⟨HNE.out, of_decide_eq_true hTl.symm⟩]
        exact ⟨rfl, setL_grow GR (Nat.le_refl _) 0 [_, _, _]⟩
      | false =>
        go_wp2_with fail
        have hTl := HT.out
        rw [ht] at hTl
        refine bodyPost_ret (v := .tuple #[.agg #[.int .i64 0, .int .i64 0, .string ⟨#[]⟩], .bool false]) (by simp [results, Tryz.results37, go_sem, q2, q4]) rfl ?_
        rw [HR.out, if_neg (fun hx => (of_decide_eq_false hTl.symm) hx.2)]
        exact ⟨rfl, setL_grow GR (Nat.le_refl _) 0 [_, _, _]⟩
  | false =>
    have HE : Hid (l ≠ nullL) := Lib.hid (by rw [str_nullL, HL.out, decide_eq_false_iff_not] at hn; exact hn)
    obtain ⟨k2, f2⟩ := free_of c2
    obtain ⟨k4, f4⟩ := free_of c4
    go_wp2_with fail
    refine (Tryz.strings_HasPrefix _ _ _).mono ?_
    rintro e w0 ⟨rfl, rfl⟩
    rw [HL.out, prefix_39]
    cases hp : decide (l.head? = some 39) with
    | true =>
      have HR : Hid (readV l = if l ≠ [] ∧ textL ⟨2, 0, strOf (iRead l.tail)⟩ = l then (⟨2, 0, strOf (iRead l.tail)⟩, true) else (zeroV, false)) := Lib.hid (readV_iff (by unfold iCand; rw [if_neg HE.out, if_pos (of_decide_eq_true hp)]))
      have HRT := readText_any s w0 HS.out
      rw [HL.out, List.drop_one] at HRT
      obtain ⟨R, hR⟩ : ∃ R, strOf (iRead l.tail) = R := ⟨_, rfl⟩
      rw [hR] at HRT HR
      clear hp hR
      go_wp2_with fail
      refine HRT.mono ?_
      rintro e w1 ⟨rfl, g1⟩
      have d2 := (g1.block u2).trans c2
      have d4 := (g1.block u4).trans c4
      have hg1 := gX.trans g1
      have t2 := Nat.lt_of_lt_of_le u2 g1.size
      have t4 := Nat.lt_of_lt_of_le u4 g1.size
      obtain ⟨m2, e2⟩ := free_of d2
      obtain ⟨m4, e4⟩ := free_of d4
      clear gX u2 u4 c2 c4 k2 f2 k4 f4 HRT
      go_upto_region 7 with (fail)
      generalize hX : World.setCell (World.setCell (World.setCell _ _ _) _ _) _ _ = X
      obtain ⟨gX, u2, u4, c2, c4⟩ := put_two hg1 (Nat.le_refl _) d2 d4 _ _ _ hX
      clear hX d2 d4 m2 m4 e2 e4 t2 t4 hg1
      have HT : Hid (((strOf (textL ⟨2, 0, R⟩)).toList == s.toList) = decide (textL ⟨2, 0, R⟩ = l)) := Lib.hid (by rw [← HL.out, ← strOf_list s, strs_eq, strOf_toList, strOf_list])
      have HDX := Lib.hid (HDo.out.grow gX)
      obtain ⟨m2, e2⟩ := free_of c2
      obtain ⟨m4, e4⟩ := free_of c4
      cases he : (s.toList == []) with
      | true =>
        go_wp2_with fail
        refine bodyPost_ret (v := .tuple #[.agg #[.int .i64 0, .int .i64 0, .string ⟨#[]⟩], .bool false]) (by simp [results, Tryz.results37, go_sem, m2]) rfl ?_
        rw [HR.out, if_neg (by have h0 := HEM.out; rw [he] at h0; exact fun hx => hx.1 (of_decide_eq_true h0.symm))]
        exact ⟨rfl, setL_grow gX (Nat.le_refl _) 0 [_, _, _]⟩
      | false =>
        go_wp2_with fail
        refine (iValText_any ⟨2, 0, R⟩ _ HDX.out.ten).mono ?_
        rintro e w3 ⟨rfl, g3⟩
        have GR := gX.trans g3
        have p2 := (g3.block u2).trans c2
        have p4 := (g3.block u4).trans c4
        obtain ⟨q2, y2⟩ := free_of p2
        obtain ⟨q4, y4⟩ := free_of p4
        have v2 := Nat.lt_of_lt_of_le u2 g3.size
        have v4 := Nat.lt_of_lt_of_le u4 g3.size
        have HNE : Hid (l ≠ []) := Lib.hid (by have h0 := HEM.out; rw [he] at h0; exact of_decide_eq_false h0.symm)
        obtain ⟨T, hT⟩ : ∃ T, strOf (textL ⟨2, 0, R⟩) = T := ⟨_, rfl⟩
        rw [hT] at HT ⊢
        clear hT m2 e2 m4 e4
        cases ht : (T.toList == s.toList) with
        | true =>
          go_wp2_with fail
          have hTl := HT.out
          rw [ht] at hTl
          refine bodyPost_ret (v := .tuple #[.agg #[.int .i64 2, .int .i64 0, .string R], .bool true]) (by simp [results, Tryz.results37, go_sem, q2, q4]) rfl ?_
          rw [HR.out, if_pos ⟨HNE.out, of_decide_eq_true hTl.symm⟩]
          exact ⟨rfl, setL_grow GR (Nat.le_refl _) 0 [_, _, _]⟩
        | false =>
          go_wp2_with fail
          have hTl := HT.out
          rw [ht] at hTl
          refine bodyPost_ret (v := .tuple #[.agg #[.int .i64 0, .int .i64 0, .string ⟨#[]⟩], .bool false]) (by simp [results, Tryz.results37, go_sem, q2, q4]) rfl ?_
          rw [HR.out, if_neg (fun hx => (of_decide_eq_false hTl.symm) hx.2)]
          exact ⟨rfl, setL_grow GR (Nat.le_refl _) 0 [_, _, _]⟩
    | false =>
      have HR : Hid (readV l = if l ≠ [] ∧ textL ⟨1, pint l, ⟨#[]⟩⟩ = l then (⟨1, pint l, ⟨#[]⟩⟩, true) else (zeroV, false)) := Lib.hid (readV_iff (by unfold iCand; rw [if_neg HE.out, if_neg (of_decide_eq_false hp)]))
      clear hp
      go_wp2_with fail
      generalize hY : World.setCell _ _ _ = Y
      obtain ⟨gY, y2, y4, o2, o4⟩ := put_one gX (Nat.le_refl _) c2 c4 0 _ hY
      clear hY gX u2 u4 c2 c4 k2 f2 k4 f4
      have HPI := pint_any s Y HS.out (HDo.out.grow gY)
      rw [HL.out] at HPI
      obtain ⟨N, hN⟩ : ∃ N, pint l = N := ⟨_, rfl⟩
      rw [hN] at HPI HR
      clear hN
      refine HPI.mono ?_
      rintro e w1 ⟨ev, rfl, g1⟩
      have d2 := (g1.block y2).trans o2
      have d4 := (g1.block y4).trans o4
      have hg1 := gY.trans g1
      have t2 := Nat.lt_of_lt_of_le y2 g1.size
      have t4 := Nat.lt_of_lt_of_le y4 g1.size
      obtain ⟨m2, e2⟩ := free_of d2
      obtain ⟨m4, e4⟩ := free_of d4
      clear HPI o2 o4 y2 y4 gY
      go_upto_region 7 with (fail)
      generalize hX : World.setCell _ _ _ = X
      obtain ⟨gX, u2, u4, c2, c4⟩ := put_one hg1 (Nat.le_refl _) d2 d4 1 _ hX
      replace c4 : X.heap[w.heap.size + 1]? = some (.cells #[.int .i64 1, .int .i64 N, .string ⟨#[]⟩] 36 (0, 0)) := c4
      clear hX d2 d4 m2 m4 e2 e4 t2 t4 hg1
      have HT : Hid (((strOf (textL ⟨1, N, ⟨#[]⟩⟩)).toList == s.toList) = decide (textL ⟨1, N, ⟨#[]⟩⟩ = l)) := Lib.hid (by rw [← HL.out, ← strOf_list s, strs_eq, strOf_toList, strOf_list])
      have HDX := Lib.hid (HDo.out.grow gX)
      obtain ⟨m2, e2⟩ := free_of c2
      obtain ⟨m4, e4⟩ := free_of c4
      cases he : (s.toList == []) with
      | true =>
        go_wp2_with fail
        refine bodyPost_ret (v := .tuple #[.agg #[.int .i64 0, .int .i64 0, .string ⟨#[]⟩], .bool false]) (by simp [results, Tryz.results37, go_sem, m2]) rfl ?_
        rw [HR.out, if_neg (by have h0 := HEM.out; rw [he] at h0; exact fun hx => hx.1 (of_decide_eq_true h0.symm))]
        exact ⟨rfl, setL_grow gX (Nat.le_refl _) 0 [_, _, _]⟩
      | false =>
        go_wp2_with fail
        refine (iValText_any ⟨1, N, ⟨#[]⟩⟩ _ HDX.out.ten).mono ?_
        rintro e w3 ⟨rfl, g3⟩
        have GR := gX.trans g3
        have p2 := (g3.block u2).trans c2
        have p4 := (g3.block u4).trans c4
        obtain ⟨q2, y2⟩ := free_of p2
        obtain ⟨q4, y4⟩ := free_of p4
        have v2 := Nat.lt_of_lt_of_le u2 g3.size
        have v4 := Nat.lt_of_lt_of_le u4 g3.size
        have HNE : Hid (l ≠ []) := Lib.hid (by have h0 := HEM.out; rw [he] at h0; exact of_decide_eq_false h0.symm)
        obtain ⟨T, hT⟩ : ∃ T, strOf (textL ⟨1, N, ⟨#[]⟩⟩) = T := ⟨_, rfl⟩
        rw [hT] at HT ⊢
        clear hT m2 e2 m4 e4
        cases ht : (T.toList == s.toList) with
        | true =>
          go_wp2_with fail
          have hTl := HT.out
          rw [ht] at hTl
          refine bodyPost_ret (v := .tuple #[.agg #[.int .i64 1, .int .i64 N, .string ⟨#[]⟩], .bool true]) (by simp [results, Tryz.results37, go_sem, q2, q4]) rfl ?_
          rw [HR.out, if_pos ⟨HNE.out, of_decide_eq_true hTl.symm⟩]
          exact ⟨rfl, setL_grow GR (Nat.le_refl _) 0 [_, _, _]⟩
        | false =>
          go_wp2_with fail
          have hTl := HT.out
          rw [ht] at hTl
          refine bodyPost_ret (v := .tuple #[.agg #[.int .i64 0, .int .i64 0, .string ⟨#[]⟩], .bool false]) (by simp [results, Tryz.results37, go_sem, q2, q4]) rfl ?_
          rw [HR.out, if_neg (fun hx => (of_decide_eq_false hTl.symm) hx.2)]
          exact ⟨rfl, setL_grow GR (Nat.le_refl _) 0 [_, _, _]⟩
end Go.Proofs.YtdgmoplfiodahaaGreatDoor
