import Derived.Test.YtjeilgogjoidjaaGreatFind
/-! Rows with the same key. -/
namespace Go.Proofs.YtjeilgogjoidjaaGreat
open Go.RowKit
set_option linter.unusedVariables false
set_option linter.unusedSimpArgs false
/-- A list of numbers as an element: its header. -/
theorem ints_at {w : World} {S : Nat → Prop} {len cap : Nat} {A : Option Addr} {xs : List (List Int)} (h : IsSl (Kd.sl Kd.int) w S A len cap xs) {i : Nat} (hi : i < len) :
    ∃ b off x Ax Lx Cx, A = some ⟨b, off, none⟩ ∧ Hid (xs[i]? = some x) ∧ S b ∧ b < w.heap.size ∧ w.cell? ⟨b, off + i, none⟩ = some (.slice Ax Lx Cx) ∧ IsSl Kd.int w S Ax Lx Cx x := by
  obtain ⟨b, off, x, cs, hA, hb, hx, hc, hr⟩ := h.elem hi
  obtain ⟨Ax, Lx, Cx, rfl, hs⟩ := hr
  have c0 := hc 0 (by decide)
  have c1 : w.cell? ⟨b, off + i, none⟩ = some (.slice Ax Lx Cx) := by simpa [Kd.sl] using c0
  exact ⟨b, off, x, Ax, Lx, Cx, hA, hx, hb, cells_lt c1, c1, hs⟩
/-- A slice of the call's own (made since W), of lists that were there in W. -/
def OwnI (E : TypeId) (W w : World) (A : Option Addr) (n c : Nat) (xs : List (List Int)) : Prop :=
  ∃ rows, w.ownsRow W.heap.size E 1 (.slice A n c) n rows ∧ Flat (Kd.sl Kd.int) w (· < W.heap.size) rows xs ∧ xs.length = n ∧ Grow W w
theorem OwnI.grows {E : TypeId} {W w : World} {A : Option Addr} {n c : Nat} {xs : List (List Int)} (h : OwnI E W w A n c xs) : Grow W w := h.choose_spec.2.2.2
theorem OwnI.isSl {E : TypeId} {W w : World} {A : Option Addr} {n c : Nat} {xs : List (List Int)} (h : OwnI E W w A n c xs) : IsSl (Kd.sl Kd.int) w (· < w.heap.size) A n c xs := by
  obtain ⟨rows, h1, h2, h3, h4⟩ := h
  exact own_isSl (k := Kd.sl Kd.int) h1 h2 h3 (fun b hb => Nat.lt_of_lt_of_le hb h4.size) (fun b hB hlt hfr => hlt)
theorem OwnI.grow {E : TypeId} {W w w' : World} {A : Option Addr} {n c : Nat} {xs : List (List Int)} (h : OwnI E W w A n c xs) (hg : Grow w w') : OwnI E W w' A n c xs := by
  obtain ⟨rows, h1, h2, h3, h4⟩ := h
  exact ⟨rows, own_growK h1 hg, Flat.mono (fun _ h => h) (fun b hb => hg.block (Nat.lt_of_lt_of_le hb h4.size)) h2, h3, h4.trans hg⟩
/-- One list, made at once. -/
theorem OwnI.one {E : TypeId} {W w w' : World} {x : List Int} {Ax : Option Addr} {Lx Cx : Nat} (hw : w.alloc (.cells #[.slice Ax Lx Cx] E) = w') (hg : Grow W w) (hx : IsSl Kd.int W (· < W.heap.size) Ax Lx Cx x) : OwnI E W w' (some ⟨w.heap.size, 0, none⟩) 1 1 [x] := by
  subst hw
  have hx2 : IsSl Kd.int (w.alloc (.cells #[.slice Ax Lx Cx] E)) (· < W.heap.size) Ax Lx Cx x := hx.mono (fun _ h => h) fun b hb => ((Grow.refl w).alloc _).block (Nat.lt_of_lt_of_le hb hg.size) |>.trans (hg.block hb)
  exact ⟨[.slice Ax Lx Cx], ⟨rfl, .inr ⟨_, 1, _, rfl, hg.size, new_block _ _, Nat.le_refl _, by simp [maxLen], rfl, rfl⟩⟩, ⟨_, [], rfl, ⟨Ax, Lx, Cx, rfl, hx2⟩, rfl⟩, rfl, hg.alloc _⟩
theorem OwnI.keep {E : TypeId} {W w w' : World} {q n c : Nat} {xs : List (List Int)} (h : OwnI E W w (some ⟨q, 0, none⟩) n c xs) (hW : Grow W w') (hb : w'.heap[q]? = w.heap[q]?) : OwnI E W w' (some ⟨q, 0, none⟩) n c xs := by
  obtain ⟨rows, ⟨hr, h1⟩, h2, h3, h4⟩ := h
  refine ⟨rows, ⟨hr, ?_⟩, Flat.mono (fun _ h => h) (fun b hb => (hW.block hb).trans (h4.block hb).symm) h2, h3, hW⟩
  rcases h1 with h0 | ⟨g, cap', cur, hv, hB, hh, hle, hmx, hs, ht⟩
  · cases h0.1
  · have hg : q = g := by simp only [Value.slice.injEq, Option.some.injEq, Addr.mk.injEq] at hv; exact hv.1.1
    subst hg
    exact .inr ⟨q, cap', cur, hv, hB, by rw [hb]; exact hh, hle, hmx, hs, ht⟩
theorem OwnI.place {E : TypeId} {W w : World} {A : Option Addr} {n c : Nat} {xs : List (List Int)} (h : OwnI E W w A n c xs) (hn : 0 < n) : ∃ q, A = some ⟨q, 0, none⟩ ∧ W.heap.size ≤ q ∧ q < w.heap.size := by
  obtain ⟨rows, ⟨hr, h1⟩, h2, h3, h4⟩ := h
  rcases h1 with h0 | ⟨g, cap', cur, hv, hB, hh, hle, hmx, hs, ht⟩
  · omega
  · simp only [Value.slice.injEq] at hv
    refine ⟨g, hv.1, hB, ?_⟩
    rcases Nat.lt_or_ge g w.heap.size with h' | h'
    · exact h'
    · simp [Array.getElem?_eq_none h'] at hh
/-- What an append of a list leaves. -/
structure ApI (E : TypeId) (W w : World) (A : Option Addr) (q : Nat) (zs : List (List Int)) (A' : Option Addr) (c' : Nat) (w' : World) : Prop where
  own : OwnI E W w' A' q c' zs
  grown : ∀ X : World, Grow X w → (∀ q, blockOf A = some q → X.heap.size ≤ q) → Grow X w'
  place : blockOf A' = blockOf A ∨ ∃ g, blockOf A' = some g ∧ w.heap.size ≤ g
theorem wpList_appI {P : Program} {t E : TypeId} {bytes : Nat} (he : ElemOk P t E 1 bytes) {W w : World} {A : Option Addr} {n c : Nat} {xs : List (List Int)} {ops : Array Oper} {rest : List Oper} {o : Oper} {a : Act} {Q : Exit → Act → World → Prop} (hgd : o.guard = none) (s x : Operand)
    (hop : o.op = .call { callee := .builtin .append, args := #[s, x], argTypes := #[t, t] }) (hs : a.eval s = .slice A n c) (own : OwnI E W w A n c xs) {b : Nat} (hx : a.eval x = .slice (some ⟨b, 0, none⟩) 1 1) {Ay : Option Addr} {Ly Cy : Nat} {fr : Nat × Nat} (hb : w.heap[b]? = some (.cells #[.slice Ay Ly Cy] E fr))
    {y : List Int} (hy : IsSl Kd.int W (· < W.heap.size) Ay Ly Cy y) {q : Nat} (hq : n + 1 = q) (h63 : q ≤ maxLen) (hby : q * bytes ≤ 140737488355328)
    (h : ∀ A' c' w', ApI E W w A q (xs ++ [y]) A' c' w' → wpList P ops Q rest (a.put o.dst (.slice A' q c')) w') : wpList P ops Q (o :: rest) a w := by
  subst hq
  obtain ⟨i, z, ht, hi, hz, hs1, hby1, hzs, h0⟩ := he
  obtain ⟨rows, o1, o2, o3, o4⟩ := own
  refine wpList_append_lies _ hgd s x t hop W.heap.size E i z 1 bytes ht hi hz hs1 hby1 hzs h0 (.slice A n c) n rows hs o1 ⟨b, 0, none⟩ 1 1 [.slice Ay Ly Cy] hx rfl (World.news_of_block hb) (fun u hu => by simp at hu; subst hu; rfl) (by decide) h63 hby o4.size w.heap.size rfl ?_
  intro g cap w' q1 q2 q3 q4
  have hbl : (Value.slice A n c).ownBlock = blockOf A := by cases A <;> rfl
  rw [hbl] at q2
  have hA : ∀ q, blockOf A = some q → W.heap.size ≤ q := fun q hq => by
    rcases A with _ | a
    · cases hq
    · simp only [blockOf, Option.some.injEq] at hq
      subst hq
      obtain ⟨_, ⟨h0', _⟩ | ⟨g', cap', cur, hv, hB, _⟩⟩ := o1
      · cases h0'
      · simp only [Value.slice.injEq, Option.some.injEq] at hv
        rw [hv.1]; exact hB
  have hG : ∀ X : World, Grow X w → (∀ q, blockOf A = some q → X.heap.size ≤ q) → Grow X w' := fun X hX hq => Below.grown hX q2 hX.size hq
  have gW := hG W o4 hA
  refine h _ _ _ ⟨⟨_, q1, flat_append (Flat.mono (fun _ h => h) (fun b hb => (gW.block hb).trans (o4.block hb).symm) o2) ⟨[.slice Ay Ly Cy], [], rfl, ⟨Ay, Ly, Cy, rfl, hy.mono (fun _ h => h) fun b hb => gW.block hb⟩, rfl⟩, by rw [List.length_append, o3]; rfl, gW⟩, hG, (by rcases q3 with q3 | q3; exact .inl (by rw [← hbl]; exact q3.symm); exact .inr ⟨g, rfl, Nat.le_of_eq q3.symm⟩)⟩
/-- What is in the keys lies within the columns. -/
def KeysIn (t : Table) : Prop := ∀ cols ∈ keysOf t, InCols cols t.cols.length ∧ cols.length ≤ 8
theorem keysIn_of {t : Table} (h : tableOkB t = true) : KeysIn t ∧ t.uniques.length ≤ 3 := by
  have h8 := (tableOk_cols h).2
  have h2 : uniBad t = false ∧ t.uniques.length ≤ 3 := by
    simp only [tableOkB, Bool.and_eq_true, Bool.not_eq_true', decide_eq_true_eq] at h
    simp_all
  have hk : ∀ cols : List Int, colsB cols t.cols.length = true → InCols cols t.cols.length ∧ cols.length ≤ 8 := fun cols hc => ⟨fun c hcm => colsB_mem hc hcm, Nat.le_trans (colsB_len hc) h8⟩
  refine ⟨fun cols hc => ?_, h2.2⟩
  simp only [keysOf, List.mem_cons, List.mem_map] at hc
  rcases hc with rfl | ⟨u, hu, rfl⟩
  · exact hk _ (tableOkB_parts h).1
  · refine hk _ ?_
    have := List.any_eq_false.mp h2.1 u hu
    simpa [uniP] using this
theorem keysOf_take {t : Table} {k : Nat} {u : Unique} (hu : t.uniques[k]? = some u) : t.key :: (t.uniques.take (k + 1)).map (·.cols) = (t.key :: (t.uniques.take k).map (·.cols)) ++ [u.cols] := by
  rw [take_snoc hu]; simp
theorem rivalV_yes {t : Table} {rows : List Row} {id : Int} {vals : List Val} {k : Nat} {x : Row} (hx : rows[k]? = some x) (h : rivalP t id vals x = true) : rivalV t (rows.take (k + 1)) id vals = rivalV t (rows.take k) id vals ++ [x.id] := by
  unfold rivalV
  rw [take_snoc hx, List.filter_append, List.map_append]
  simp [h]
theorem rivalV_no {t : Table} {rows : List Row} {id : Int} {vals : List Val} {k : Nat} {x : Row} (hx : rows[k]? = some x) (h : rivalP t id vals x = false) : rivalV t (rows.take (k + 1)) id vals = rivalV t (rows.take k) id vals := by
  unfold rivalV
  rw [take_snoc hx, List.filter_append, List.map_append]
  simp [h]
theorem indexFunc_ints (fn : FuncId) (hfn : Enters Tryz.prog fn) (fi cp : Array Value) (p : List Int → Bool) {A : Option Addr} {len cap : Nat} {xs : List (List Int)} (w : World) (h : IsSl (Kd.sl Kd.int) w (· < w.heap.size) A len cap xs)
    (hf : ∀ B l c x w', x ∈ xs → Grow w w' → IsSl Kd.int w' (· < w'.heap.size) B l c x → Calls Tryz.prog fn (fi.push (.slice B l c) ++ cp) w' (Ret w' (.bool (p x)))) :
    Calls Tryz.prog 159 #[.slice A len cap, .func (.func fn) fi cp] w (Ret w (.int .i64 (idxOf p xs))) := by
  have hlen : len ≤ maxLen := Nat.le_trans h.2.1 h.2.2.1
  have hxl := Lib.hid h.1
  have hfn' := hfn.out
  have HF := Lib.hid hf
  clear hf
  unfold maxLen at hlen
  go_enter Tryz.func159, Tryz.ntmps159
  go_wp2
  go_loopw [4, 5, 8] (fun _ _ i wr => ∃ k : Nat, k ≤ len ∧ i = .int .i64 k ∧ Grow w wr ∧ NoneTo p xs k) (fun _ _ i _ => len - (intOf i).toNat)
  case atStart => exact ⟨0, Nat.zero_le _, rfl, Grow.refl _, NoneTo.zero _ _⟩
  case round =>
    obtain ⟨k, hk, rfl, hg, hno⟩ := hrel
    by_cases hlt : k < len
    · obtain ⟨b, off, x, Ax, Lx, Cx, rfl, hx, _, hb, c0, sx⟩ := ints_at (h.mono (S' := (· < wr.heap.size)) (fun b hb => Nat.lt_of_lt_of_le hb hg.size) fun b hb => hg.block hb) hlt
      go_wp2_with fail
      refine (HF.out _ _ _ x _ (mem_of_at hx.out) hg sx).mono ?_
      rintro e w1 ⟨rfl, hb⟩
      by_cases hp : p x = true
      · go_wp2
        go_ret
        exact ⟨ret_int (hno.hit hx.out hp).symm, hg.trans hb⟩
      · replace hp : p x = false := by simpa using hp
        go_wp2
        go_roundw
        case rel => exact ⟨k + 1, by omega, by go_num, hg.trans hb, hno.succ hx.out hp⟩
        case measure => simp [intOf]; omega
    · go_wp2
      go_ret
      exact ⟨ret_int (hno.done (by rw [hxl.out]; omega)).symm, hg⟩
theorem containsFunc_ints (fn : FuncId) (hfn : Enters Tryz.prog fn) (fi cp : Array Value) (p : List Int → Bool) {A : Option Addr} {len cap : Nat} {xs : List (List Int)} (w : World) (h : IsSl (Kd.sl Kd.int) w (· < w.heap.size) A len cap xs)
    (hf : ∀ B l c x w', x ∈ xs → Grow w w' → IsSl Kd.int w' (· < w'.heap.size) B l c x → Calls Tryz.prog fn (fi.push (.slice B l c) ++ cp) w' (Ret w' (.bool (p x)))) {r : Bool} (hr : xs.any p = r) :
    Calls Tryz.prog 131 #[.slice A len cap, .func (.func fn) fi cp] w (Ret w (.bool r)) := by
  subst hr
  have HF := Lib.hid hf
  clear hf
  go_enter Tryz.func131, Tryz.ntmps131
  go_wp2_with fail
  refine (indexFunc_ints fn hfn fi cp p w h HF.out).mono ?_
  rintro e w1 ⟨rfl, hb⟩
  go_wp2
  go_ret
  exact ⟨ret_bool (idxOf_any p xs), hb⟩
theorem enters_rivals1 : Enters Tryz.prog 132 := ⟨fun a w => by go_simp⟩
theorem rivals1_any (bv br : Nat) {A B C : Option Addr} {la ca lb cb lc cc : Nat} {cols : List Int} {vals rv : List Val} {rid : Int} (w : World) (h : IsSl Kd.int w (· < w.heap.size) A la ca cols) (hv : IsSl Kd.val w (· < w.heap.size) B lb cb vals) (hr : IsSl Kd.val w (· < w.heap.size) C lc cc rv)
    (hbv : bv < w.heap.size) (hbr : br < w.heap.size) (cv : w.cell? ⟨bv, 0, none⟩ = some (.slice B lb cb)) (cr0 : w.cell? ⟨br, 0, none⟩ = some (.int .i64 rid)) (cr : w.cell? ⟨br, 1, none⟩ = some (.slice C lc cc)) (hl : la ≤ 1048576) (hin : InCols cols lb) (hin2 : InCols cols lc) :
    Calls Tryz.prog 132 #[.slice A la ca, .pointer (some ⟨bv, 0, none⟩), .pointer (some ⟨br, 0, none⟩)] w (Ret w (.bool (rivP vals rv cols))) := by
  have HI := Lib.hid hin
  have HI2 := Lib.hid hin2
  clear hin hin2
  cases hkn : knownV cols vals with
  | false =>
    have hf := Lib.hid (show rivP vals rv cols = false by rw [rivP, hkn]; rfl)
    have HK := Lib.hid hkn
    clear hkn
    go_enter Tryz.func132, Tryz.ntmps132
    go_wp2_with fail
    refine (ikeyOf_eq HK.out _ h hv hl HI.out).mono ?_
    rintro e w1 ⟨A1, l1, c1, rfl, k1, g1⟩
    go_wp2
    go_ret
    exact ⟨ret_bool hf.out.symm, g1⟩
  | true =>
    have hf := Lib.hid (show rivP vals rv cols = hasB cols rv (keyV cols vals) by rw [rivP, hkn]; rfl)
    have HK := Lib.hid hkn
    clear hkn
    go_enter Tryz.func132, Tryz.ntmps132
    go_wp2_with fail
    refine (ikeyOf_eq HK.out _ h hv hl HI.out).mono ?_
    rintro e w1 ⟨A1, l1, c1, rfl, k1, g1⟩
    have hc1 := g1.same
    go_wp2_with fail
    refine (has_any _ (h.grow g1) (hr.grow g1) k1.fresh hl HI2.out).mono ?_
    rintro e w2 ⟨rfl, g2⟩
    go_wp2
    go_ret
    exact ⟨ret_bool hf.out.symm, g1.trans g2⟩
theorem info_ints : (Tryz.prog.info? 29).map (fun i => (i.zero, i.size, i.bytes)) = some (some (.slice none 0 0), 1, 24) := by kernel_rfl
theorem elem_ints : ElemOk Tryz.prog 157 29 1 24 := elemOk_of Tryz.underlying157 info_ints rfl (by decide)
set_option maxHeartbeats 4000000 in
theorem rivals_any (cs : List Value) (t : Table) (id : Int) {B C : Option Addr} {lb cb lc cc : Nat} {rows : List Row} {vals : List Val} (w : World) (h : Kd.table.rd w (· < w.heap.size) cs t) (hr : IsSl Kd.row w (· < w.heap.size) B lb cb rows) (hv : IsSl Kd.val w (· < w.heap.size) C lc cc vals)
    (hk : KeysIn t) (hu3 : t.uniques.length ≤ 3) (hvl : vals.length = t.cols.length) (hrl : ∀ r ∈ rows, r.vals.length = t.cols.length) (hlb : lb ≤ 1048576) :
    Calls Tryz.prog 81 #[.agg cs.toArray, .slice B lb cb, .int .i64 id, .slice C lc cc] w (IntsRes (rivalV t rows id vals) w) := by
  obtain ⟨Acols, Lcols, Ccols, Akey, Lkey, Ckey, Auniques, Luniques, Cuniques, Achecks, Lchecks, Cchecks, Afks, Lfks, Cfks, rfl, zname, scols, skey, suniques, schecks, sfks⟩ := h
  have HK := Lib.hid hk
  have HVL := Lib.hid (hv.1.symm.trans hvl)
  have HRL := Lib.hid hrl
  have HR := Lib.hid hr.1
  have HU := Lib.hid suniques.1
  have hu4 : Luniques ≤ 3 := by rw [← suniques.1]; exact hu3
  clear hk hvl hrl hu3
  go_enter Tryz.func81, Tryz.ntmps81
  go_wp2_with fail
  generalize hW : World.alloc (World.alloc w _) _ = W
  obtain ⟨hg, hs, hs', k1, k2⟩ := boxed2 hW
  have hWs := Lib.hid (show W.heap.size = w.heap.size + 1 + 1 by rw [← hW]; simp)
  clear hW
  generalize hX : World.alloc W _ = X
  obtain ⟨gX, sX, bX⟩ := boxedB hX
  have ownX : OwnF Kd.int 2 W X (some ⟨W.heap.size, 0, none⟩) 0 0 [] := by rw [← hX]; exact OwnF.made (Grow.refl _)
  have hXs := Lib.hid (show X.heap.size = W.heap.size + 1 by rw [← hX]; simp)
  clear hX
  generalize hY : World.alloc X _ = Y
  obtain ⟨gY, sY, bY⟩ := boxedB hY
  have ownY0 := OwnI.one hY gX (skey.grow hg)
  rw [hXs.out, hWs.out] at ownY0
  rw [hWs.out] at ownX
  have sXY := gY.size
  clear hY
  go_loopw [10, 22] (fun lv i wr => ∃ (k c : Nat) (Q : Option Addr), k ≤ Luniques ∧ i = .int .i64 k ∧ lv = .slice Q (k + 1) c ∧ Grow X wr ∧ OwnI 29 W wr Q (k + 1) c (t.key :: (t.uniques.take k).map (·.cols)) ∧ ∀ q, blockOf Q = some q → X.heap.size ≤ q) (fun _ i _ => Luniques - (intOf i).toNat)
  case atStart => exact ⟨0, 1, _, Nat.zero_le _, rfl, rfl, gY, ownY0, fun q hq => by cases hq; rw [hXs.out, hWs.out]; exact Nat.le_refl _⟩
  case round =>
    obtain ⟨k, c, Q, hk0, rfl, rfl, hG, own, hQ⟩ := hrel
    have hGW := gX.trans hG
    by_cases hlt : k < Luniques
    · obtain ⟨b, off, x, Ax, Lx, Cx, rfl, hx, _, hb, c0, sx, -⟩ := unique_at (suniques.grow hg) hlt
      have c0r := (hGW.same _ _ hb).trans c0
      have hbr := Nat.lt_of_lt_of_le hb hGW.size
      have hn := Lib.hid (keysOf_take hx.out)
      have hblk := Lib.hid (show ((wr.alloc (.cells #[.slice Ax Lx Cx] 106)).alloc (.cells #[.slice Ax Lx Cx] 29)).heap[wr.heap.size + 1]? = some (.cells #[.slice Ax Lx Cx] 29 (0, 0)) by have := new_block (wr.alloc (.cells #[.slice Ax Lx Cx] 106)) (.cells #[.slice Ax Lx Cx] 29); simpa using this)
      go_wp2_with (at_builtin; refine wpList_appI elem_ints rfl (.tmp 26) (.tmp 29) (by rfl) (by rfl) (own.grow (((Grow.refl _).alloc _).alloc _)) (b := wr.heap.size + 1) (by rfl) hblk.out sx (q := k + 1 + 1) rfl (by unfold maxLen; omega) (by omega) (fun A3 c3 w3 ap3 => ?_))
      have hG3 := ap3.grown X ((hG.alloc _).alloc _) hQ
      have hQ3 : ∀ q, blockOf A3 = some q → X.heap.size ≤ q := fun q hq => by
        rcases ap3.place with h1 | ⟨g, h1, h2⟩
        · exact hQ q (h1.symm.trans hq)
        · rw [h1] at hq
          cases hq
          exact Nat.le_trans ((hG.alloc _).alloc _).size h2
      go_roundw
      case rel => exact ⟨k + 1, c3, A3, by omega, by go_num, rfl, hG3, by rw [hn.out]; exact ap3.own, hQ3⟩
      case measure => simp [intOf]; omega
    · have hkU : k = Luniques := by omega
      have own2 := own
      rw [List.take_of_length_le (by rw [HU.out]; omega)] at own2
      have hke : t.key :: t.uniques.map (·.cols) = keysOf t := rfl
      rw [hke] at own2
      obtain ⟨q, rfl, hq1, hq2⟩ := own2.place (by omega)
      have hqX := hQ q rfl
      obtain ⟨Z, hZ⟩ : ∃ Z, Z = wr := ⟨_, rfl⟩
      subst hZ
      have ownZ := ownX.grow hG
      have hXs2 : w.heap.size + 1 + 1 < X.heap.size := by rw [hXs.out, hWs.out]; omega
      have hne0 : blockOf (some (⟨w.heap.size + 1 + 1, 0, none⟩ : Addr)) ≠ some q := by
        intro e
        simp only [blockOf, Option.some.injEq] at e
        omega
      clear own ownX ownY0 hkU hke
      go_wp2
      go_loopw [9, 34] (fun sv i wr => ∃ (j n c2 : Nat) (P : Option Addr), j ≤ lb ∧ i = .int .i64 j ∧ sv = .slice P n c2 ∧ n ≤ j ∧ OwnF Kd.int 2 W wr P n c2 (rivalV t (rows.take j) id vals) ∧ q < wr.heap.size ∧ blockOf P ≠ some q ∧ OwnI 29 W wr (some ⟨q, 0, none⟩) (k + 1) c (keysOf t)) (fun _ i _ => lb - (intOf i).toNat)
      case atStart => exact ⟨0, 0, 0, _, Nat.zero_le _, rfl, rfl, Nat.le_refl _, ownZ, hq2, hne0, own2⟩
      case round =>
        clear hG hGW own2 ownZ hne0 hQ hq2
        obtain ⟨j, n, c2, P, hj, rfl, rfl, hnj, own, hq2, hP, ownL⟩ := hrel
        have hG := own.grows
        by_cases hlt : j < lb
        · obtain ⟨b, off, x, Av, Lv, Cv, rfl, hx, _, hb, c0, c1, sv, -⟩ := row_at (hr.grow (hg.trans hG)) hlt
          have hLv := Lib.hid (show Lv = t.cols.length by rw [← sv.1]; exact HRL.out x (mem_of_at hx.out))
          by_cases hid : x.id = id
          · have hn := Lib.hid (rivalV_no (t := t) (id := id) (vals := vals) hx.out (by rw [rivalP, hid]; simp))
            have hb1 : (x.id != id) = false := by simpa using hid
            clear hid
            go_wp2_with fail
            generalize hV : World.alloc wr _ = V
            obtain ⟨gV, sV, bV⟩ := boxedB hV
            obtain ⟨kV, fV⟩ := free_of bV
            clear hV
            have ownV := own.grow gV
            have ownLV := ownL.grow gV
            have hqV := Nat.lt_of_lt_of_le hq2 gV.size
            have gWV := hG.trans gV
            go_roundw
            case rel => exact ⟨j + 1, n, c2, P, by omega, by go_num, rfl, by omega, by rw [hn.out]; exact ownV, hqV, hP, ownLV⟩
            case measure => simp [intOf]; omega
          · have hb1 : (x.id != id) = true := by simpa using hid
            have hne : x.id ≠ id := hid
            clear hid
            go_wp2_with fail
            generalize hV : World.alloc wr _ = V
            obtain ⟨gV, sV, bV⟩ := boxedB hV
            obtain ⟨kV, fV⟩ := free_of bV
            clear hV
            have ownV := own.grow gV
            have ownLV := ownL.grow gV
            have hqV := Nat.lt_of_lt_of_le hq2 gV.size
            have gWV := hG.trans gV
            have hrp : rivalP t id vals x = (keysOf t).any (rivP vals x.vals) := by rw [rivalP, decide_eq_true hne, Bool.true_and]
            have HF := Lib.hid (show ∀ (B : Option Addr) (l c : Nat) (cols : List Int) (w' : World), cols ∈ keysOf t → Grow V w' → IsSl Kd.int w' (· < w'.heap.size) B l c cols → Calls Tryz.prog 132 #[.slice B l c, .pointer (some ⟨w.heap.size + 1, 0, none⟩), .pointer (some ⟨wr.heap.size, 0, none⟩)] w' (Ret w' (.bool (rivP vals x.vals cols))) from fun B l c cols w' hmem hw hsl => by
              obtain ⟨hi1, hi2⟩ := HK.out cols hmem
              exact rivals1_any _ _ w' hsl (hv.grow (hg.trans (gWV.trans hw))) (sv.grow (gV.trans hw)) (Nat.lt_of_lt_of_le hs' (gWV.trans hw).size) (Nat.lt_of_lt_of_le sV hw.size) (((gWV.trans hw).same _ _ hs').trans (k2 0)) ((hw.same _ _ sV).trans (kV 0)) ((hw.same _ _ sV).trans (kV 1)) (by rw [← hsl.1]; omega) (by rw [HVL.out]; exact hi1) (by rw [hLv.out]; exact hi1))
            clear hne
            cases hany : (keysOf t).any (rivP vals x.vals) with
            | false =>
              have hn := Lib.hid (rivalV_no (t := t) (id := id) (vals := vals) hx.out (hrp.trans hany))
              have HA := Lib.hid hany
              clear hany hrp
              refine (containsFunc_ints _ enters_rivals1 _ _ (rivP vals x.vals) _ ownLV.isSl (fun B l c cols w' hmem hw hsl => by simpa using HF.out B l c cols w' hmem hw hsl) HA.out).mono ?_
              rintro e w2 ⟨rfl, g2⟩
              go_wp2
              go_roundw
              case rel => exact ⟨j + 1, n, c2, P, by omega, by go_num, rfl, by omega, by rw [hn.out]; exact ownV.grow g2, Nat.lt_of_lt_of_le hqV g2.size, hP, ownLV.grow g2⟩
              case measure => simp [intOf]; omega
            | true =>
              have hn := Lib.hid (rivalV_yes (t := t) (id := id) (vals := vals) hx.out (hrp.trans hany))
              have HA := Lib.hid hany
              clear hany hrp
              refine (containsFunc_ints _ enters_rivals1 _ _ (rivP vals x.vals) _ ownLV.isSl (fun B l c cols w' hmem hw hsl => by simpa using HF.out B l c cols w' hmem hw hsl) HA.out).mono ?_
              rintro e w2 ⟨rfl, g2⟩
              have hc2 := g2.same
              have own3 := (ownV.grow g2).grow ((Grow.refl w2).alloc (.cells #[.int .i64 x.id] 2))
              have ownL3 := (ownLV.grow g2).grow ((Grow.refl w2).alloc (.cells #[.int .i64 x.id] 2))
              have hq3 : q < (w2.alloc (.cells #[.int .i64 x.id] 2)).heap.size := by have := g2.size; simp; omega
              go_wp2_with (at_builtin; refine wpList_app plain_int ones_int elem_int rfl (.tmp 47) (.tmp 50) (by rfl) (by rfl) own3 (by rfl) (isSl_one (by decide) (new_block _ _) rfl) (q := n + 1) rfl (by unfold maxLen; omega) (by omega) (fun A3 c3 w3 ap3 => ?_))
              obtain ⟨z1, z2, z3⟩ := ap3.apart hq3 hP
              go_roundw
              case rel => exact ⟨j + 1, n + 1, c3, A3, by omega, by go_num, rfl, by omega, by rw [hn.out]; exact ap3.own, z1, z2, ownL3.keep ap3.own.grows z3⟩
              case measure => simp [intOf]; omega
        · obtain rfl : j = lb := by omega
          have own2 := own
          rw [List.take_of_length_le (by rw [HR.out]; exact Nat.le_refl _)] at own2
          go_wp2
          go_ret
          exact ⟨_, _, _, rfl, (own2.low hg).isSl, hg.trans hG⟩
end Go.Proofs.YtjeilgogjoidjaaGreat
