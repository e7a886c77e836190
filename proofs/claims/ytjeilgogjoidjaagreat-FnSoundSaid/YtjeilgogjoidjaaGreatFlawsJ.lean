import Derived.Test.YtjeilgogjoidjaaGreatFlawsI
/-! The program's flaws, all of them. -/
namespace Go.Proofs.YtjeilgogjoidjaaGreat
open Go.RowKit
set_option linter.unusedVariables false
set_option linter.unusedSimpArgs false
def FlawsRes (ks : List Flaw) (w : World) (e : Ending) (w' : World) : Prop := ∃ A len cap, e = .returned (.slice A len cap) ∧ IsSl Kd.flaw w' (Fresh w.heap.size w') A len cap ks ∧ Grow w w'
/-- The flaws that the first m of four marks tell. -/
def flUp (b0 b1 b2 b3 : Bool) (i id : Int) (m : Nat) : List Flaw := (if 0 < m then flawIf b0 1 i id else []) ++ (if 1 < m then flawIf b1 2 i id else []) ++ (if 2 < m then flawIf b2 3 i id else []) ++ (if 3 < m then flawIf b3 4 i id else [])
theorem flUp_zero (b0 b1 b2 b3 : Bool) (i id : Int) : flUp b0 b1 b2 b3 i id 0 = [] := by simp [flUp]
theorem flUp_four (b0 b1 b2 b3 : Bool) (i id : Int) : flUp b0 b1 b2 b3 i id 4 = flawIf b0 1 i id ++ flawIf b1 2 i id ++ flawIf b2 3 i id ++ flawIf b3 4 i id := by simp [flUp]
theorem flUp_step (b0 b1 b2 b3 : Bool) (i id : Int) (m : Nat) (b : Bool) (c : Int) (h : (m = 0 ∧ b = b0 ∧ c = 1) ∨ (m = 1 ∧ b = b1 ∧ c = 2) ∨ (m = 2 ∧ b = b2 ∧ c = 3) ∨ (m = 3 ∧ b = b3 ∧ c = 4)) : flUp b0 b1 b2 b3 i id (m + 1) = flUp b0 b1 b2 b3 i id m ++ flawIf b c i id := by
  rcases h with ⟨rfl, rfl, rfl⟩ | ⟨rfl, rfl, rfl⟩ | ⟨rfl, rfl, rfl⟩ | ⟨rfl, rfl, rfl⟩ <;> simp [flUp]
theorem flawIf_yes (c i id : Int) : flawIf true c i id = [⟨c, i, id⟩] := rfl
theorem flawIf_no (c i id : Int) : flawIf false c i id = [] := rfl
theorem OwnF.ltB {α : Type} {k : Kd α} {E : TypeId} {W w : World} {A : Option Addr} {n c : Nat} {xs : List α} (h : OwnF k E W w A n c xs) {b : Nat} (hb : w.heap.size ≤ b) : blockOf A ≠ Option.some b := fun e => by
  obtain ⟨rows, ⟨hr, ⟨h0, _⟩ | ⟨g, cap', cur, hv, hB, hh, hle, hmx, hs, ht⟩⟩, h2, h3, h4⟩ := h
  · simp only [Value.slice.injEq] at h0
    rw [h0.1] at e; cases e
  · simp only [Value.slice.injEq] at hv
    rw [hv.1] at e
    cases e
    rw [Array.getElem?_eq_none hb] at hh
    cases hh
/-- A block that a slice's growth leaves alone. -/
def Kept (w : World) (P : Option Addr) (b : Nat) (o : Obj) : Prop := b < w.heap.size ∧ blockOf P ≠ some b ∧ w.heap[b]? = some o
theorem Kept.grow {w w' : World} {P : Option Addr} {b : Nat} {o : Obj} (h : Kept w P b o) (hg : Grow w w') : Kept w' P b o := ⟨Nat.lt_of_lt_of_le h.1 hg.size, h.2.1, (hg.block h.1).trans h.2.2⟩
theorem Kept.app {α : Type} {k : Kd α} {E : TypeId} {W w : World} {P : Option Addr} {q : Nat} {zs : List α} {A' : Option Addr} {c' : Nat} {w' : World} (ap : Apped k E W w (blockOf P) q zs A' c' w') {b : Nat} {o : Obj} (h : Kept w P b o) : Kept w' A' b o := by
  obtain ⟨h1, h2, h3⟩ := ap.apart h.1 h.2.1
  exact ⟨h1, h2, h3.trans h.2.2⟩
theorem range_flat {α : Type} (f : Nat → List α) (k : Nat) : (List.range (k + 1)).flatMap f = (List.range k).flatMap f ++ f k := by
  rw [List.range_succ, List.flatMap_append]; simp
theorem take_flat {α β : Type} (f : α → List β) {xs : List α} {k : Nat} {x : α} (hx : xs[k]? = some x) : (xs.take (k + 1)).flatMap f = (xs.take k).flatMap f ++ f x := by
  rw [take_snoc hx, List.flatMap_append]; simp
theorem flawD_at {s : List Table} {db : List Data} {deferred : Bool} {k : Nat} {d : Data} {t : Table} (hd : db[k]? = some d) (ht : s[k]? = some t) : flawD s db deferred k = d.rows.flatMap (flawR s db deferred k t d.rows) := by
  simp only [flawD, hd, ht]
theorem info_flaw : (Tryz.prog.info? 123).map (fun i => (i.zero, i.size, i.bytes)) = some (some (.agg #[.int .i64 0, .int .i64 0, .int .i64 0]), 3, 24) := by kernel_rfl
@[go_sem high] theorem index4_0 {a b c d : Value} (w : World) : (Instr.index 121 (.agg #[a, b, c, d]) (.int .i64 0)).run Tryz.prog w = .ok a w := by kernel_rfl
@[go_sem high] theorem index4_1 {a b c d : Value} (w : World) : (Instr.index 121 (.agg #[a, b, c, d]) (.int .i64 1)).run Tryz.prog w = .ok b w := by kernel_rfl
@[go_sem high] theorem index4_2 {a b c d : Value} (w : World) : (Instr.index 121 (.agg #[a, b, c, d]) (.int .i64 2)).run Tryz.prog w = .ok c w := by kernel_rfl
@[go_sem high] theorem index4_3 {a b c d : Value} (w : World) : (Instr.index 121 (.agg #[a, b, c, d]) (.int .i64 3)).run Tryz.prog w = .ok d w := by kernel_rfl
theorem elem_flaw : ElemOk Tryz.prog 69 123 3 24 := elemOk_of Tryz.underlying69 info_flaw rfl (by decide)
theorem hasNull_eq {cs : List Value} {t : Table} {B : Option Addr} {lb cb : Nat} {vals : List Val} {r : Bool} (hr : (!noNullB t.cols vals) = r) (w : World) (h : Kd.table.rd w (· < w.heap.size) cs t) (hv : IsSl Kd.val w (· < w.heap.size) B lb cb vals) (hl : vals.length = t.cols.length) :
    Calls Tryz.prog 79 #[.agg cs.toArray, .slice B lb cb] w (Ret w (.bool r)) := by
  subst hr; exact hasNull_any cs t w h hv hl
theorem isChecked_eq {cs : List Value} {t : Table} {B : Option Addr} {lb cb : Nat} {vals : List Val} {r : Bool} (hr : checkedB t vals = r) (w : World) (h : Kd.table.rd w (· < w.heap.size) cs t) (hv : IsSl Kd.val w (· < w.heap.size) B lb cb vals) :
    Calls Tryz.prog 80 #[.agg cs.toArray, .slice B lb cb] w (Ret w (.bool r)) := by
  subst hr; exact isChecked_any cs t w h hv
theorem rivals_eq {cs : List Value} {t : Table} {id : Int} {B C : Option Addr} {lb cb lc cc : Nat} {rows : List Row} {vals : List Val} {b : Bool} (hb : (!(rivalV t rows id vals).isEmpty) = b) (w : World) (h : Kd.table.rd w (· < w.heap.size) cs t) (hr : IsSl Kd.row w (· < w.heap.size) B lb cb rows) (hv : IsSl Kd.val w (· < w.heap.size) C lc cc vals)
    (hk : KeysIn t) (hu3 : t.uniques.length ≤ 3) (hvl : vals.length = t.cols.length) (hrl : ∀ r ∈ rows, r.vals.length = t.cols.length) (hlb : lb ≤ 1048576) :
    Calls Tryz.prog 81 #[.agg cs.toArray, .slice B lb cb, .int .i64 id, .slice C lc cc] w (fun e w' => ∃ (P : Option Addr) (l c : Nat), e = .returned (.slice P l c) ∧ decide ((0 : Int) < (l : Int)) = b ∧ Grow w w') :=
  (rivals_any cs t id w h hr hv hk hu3 hvl hrl hlb).mono fun e w' ⟨P, l, c, he, hs, hg⟩ => ⟨P, l, c, he, by
    subst hb
    rw [← hs.1]
    cases rivalV t rows id vals with
    | nil => rfl
    | cons a l => simp, hg⟩
theorem isLostRow_eq {cs : List Value} {t : Table} {deferred : Bool} {A B C : Option Addr} {la ca lb cb lc cc : Nat} {s : List Table} {db : List Data} {vals : List Val} {r : Bool} (hr : lostRow s db t vals deferred = r) (w : World) (hs : IsSl Kd.table w (· < w.heap.size) A la ca s) (hd : IsSl Kd.data w (· < w.heap.size) B lb cb db)
    (h : Kd.table.rd w (· < w.heap.size) cs t) (hv : IsSl Kd.val w (· < w.heap.size) C lc cc vals) (hin : ∀ f ∈ t.fks, FkIn s db lc f) :
    Calls Tryz.prog 82 #[.slice A la ca, .slice B lb cb, .agg cs.toArray, .slice C lc cc, .bool deferred] w (Ret w (.bool r)) := by
  subst hr; exact isLostRow_any cs t deferred w hs hd h hv hin
set_option maxRecDepth 4000 in
set_option maxHeartbeats 8000000 in
theorem flaws_any (deferred : Bool) {A B : Option Addr} {la ca lb cb : Nat} {s : List Table} {db : List Data} (w : World) (hs : IsSl Kd.table w (· < w.heap.size) A la ca s) (hd : IsSl Kd.data w (· < w.heap.size) B lb cb db) (hok : dbOkB s db = true) :
    Calls Tryz.prog 35 #[.slice A la ca, .slice B lb cb, .bool deferred] w (FlawsRes (flawsV s db deferred) w) := by
  have HOK := Lib.hid hok
  have hS : schemaOkB s = true := by simp only [dbOkB, Bool.and_eq_true] at hok; exact hok.1
  have hll : lb = la := by
    have := hok
    simp only [dbOkB, Bool.and_eq_true] at this
    have := db_len this.2
    rw [hd.1, hs.1] at this
    exact this
  have h5 : la ≤ 5 := by rw [← hs.1]; exact schemaOk_len hS
  have HS := Lib.hid hS
  have HDL := Lib.hid hd.1
  subst hll
  clear hok hS
  go_enter Tryz.func35, Tryz.ntmps35
  go_wp2
  go_loopw [7, 18] (fun sv i wr => ∃ (k n c : Nat) (P : Option Addr), k ≤ lb ∧ i = .int .i64 k ∧ sv = .slice P n c ∧ n ≤ 240 * k ∧ OwnF Kd.flaw 123 w wr P n c ((List.range k).flatMap (flawD s db deferred))) (fun _ i _ => lb - (intOf i).toNat)
  case atStart => exact ⟨0, 0, 0, _, Nat.zero_le _, rfl, rfl, Nat.zero_le _, OwnF.made (Grow.refl _)⟩
  case round =>
    obtain ⟨k, n0, c0, P0, hk, rfl, rfl, hn0, own0⟩ := hrel
    obtain ⟨wo, hwo⟩ : ∃ wo, wo = wr := ⟨_, rfl⟩
    subst hwo
    have hG0 := own0.grows
    by_cases hlt : k < lb
    · obtain ⟨b1, off1, d, Ar, Lr, Cr, rfl, hxd, _, hb1, e0, sr, hrdD⟩ := data_at hd hlt
      obtain ⟨b2, off2, t, Acols, Lcols, Ccols, Akey, Lkey, Ckey, Auniques, Luniques, Cuniques, Achecks, Lchecks, Cchecks, Afks, Lfks, Cfks, rfl, hxt, _, hb2, zname, d0, d1, d2, d3, d4, d5, -, -, -, -, -, hrdT⟩ := table_at hs hlt
      obtain ⟨t', ht', hT, hr60, hfit⟩ := db_table HOK.out hxd.out
      obtain rfl : t' = t := Option.some.inj (ht'.symm.trans hxt.out)
      obtain ⟨hKI, hu3⟩ := keysIn_of hT
      have hFK : ∀ f ∈ t'.fks, FkIn s db t'.cols.length f := fun f hf => fkIn_of HOK.out hxt.out hf
      have HKI := Lib.hid hKI
      have HU3 := Lib.hid hu3
      have HFK := Lib.hid hFK
      have HFIT := Lib.hid (show ∀ r ∈ d.rows, r.vals.length = t'.cols.length from fun r hr => fit_len (hfit r hr))
      have HRL := Lib.hid sr.1
      have hr60' : Lr ≤ 60 := by rw [← sr.1]; exact hr60
      have hFD := Lib.hid (flawD_at (deferred := deferred) hxd.out hxt.out)
      have i0 : (0 : Int) ≤ (k : Int) := Int.natCast_nonneg k
      have i1 : (k : Int) < (lb : Int) := Int.ofNat_lt.mpr hlt
      have e0r := (hG0.same _ _ hb1).trans e0
      have d0r := (hG0.same _ _ hb2).trans d0
      have d1r := (hG0.same _ _ hb2).trans d1
      have d2r := (hG0.same _ _ hb2).trans d2
      have d3r := (hG0.same _ _ hb2).trans d3
      have d4r := (hG0.same _ _ hb2).trans d4
      have d5r := (hG0.same _ _ hb2).trans d5
      have hb1r := Nat.lt_of_lt_of_le hb1 hG0.size
      have hb2r := Nat.lt_of_lt_of_le hb2 hG0.size
      clear ht' hKI hu3 hFK hfit hr60
      go_wp2_with fail
      generalize hV : World.alloc (World.alloc wo _) _ = V
      obtain ⟨gV, sV0, sV1, bD, bT⟩ := boxedB2 hV
      clear hV
      have ownV := own0.grow gV
      have kD : Kept V P0 wo.heap.size (.cells #[.slice Ar Lr Cr] 39 (0, 0)) := ⟨sV0, own0.ltB (Nat.le_refl _), bD⟩
      have kT : Kept V P0 (wo.heap.size + 1) (.cells #[.string t'.name, .slice Acols Lcols Ccols, .slice Akey Lkey Ckey, .slice Auniques Luniques Cuniques, .slice Achecks Lchecks Cchecks, .slice Afks Lfks Cfks] 36 (0, 0)) := ⟨sV1, own0.ltB (Nat.le_succ _), bT⟩
      have hDB : wo.heap.size = wo.heap.size := rfl
      obtain ⟨nd, hnd⟩ : ∃ nd, nd = wo.heap.size := ⟨_, rfl⟩
      rw [← hnd] at kD kT
      obtain ⟨fD, gD⟩ := free_of kD.2.2
      obtain ⟨fT, gT⟩ := free_of kT.2.2
      rw [hnd] at fD fT
      clear e0r d0r d1r d2r d3r d4r d5r hDB
      have sV := gV.size
      go_wp2
      go_loopw [7, 30] (fun sv i wr => ∃ (j n c : Nat) (P : Option Addr), j ≤ Lr ∧ i = .int .i64 j ∧ sv = .slice P n c ∧ n ≤ 240 * k + 4 * j ∧ OwnF Kd.flaw 123 w wr P n c ((List.range k).flatMap (flawD s db deferred) ++ (d.rows.take j).flatMap (flawR s db deferred k t' d.rows)) ∧
        Kept wr P nd (.cells #[.slice Ar Lr Cr] 39 (0, 0)) ∧ Kept wr P (nd + 1) (.cells #[.string t'.name, .slice Acols Lcols Ccols, .slice Akey Lkey Ckey, .slice Auniques Luniques Cuniques, .slice Achecks Lchecks Cchecks, .slice Afks Lfks Cfks] 36 (0, 0))) (fun _ i _ => Lr - (intOf i).toNat)
      case atStart => exact ⟨0, n0, c0, P0, Nat.zero_le _, rfl, rfl, by omega, by simpa using ownV, kD, kT⟩
      case round =>
        clear fD gD fT gT kD kT ownV
        obtain ⟨j, n1, c1, P1, hj, rfl, rfl, hn1, own1, kD, kT⟩ := hrel
        have hG1 := own1.grows
        by_cases hlt2 : j < Lr
        · obtain ⟨b3, off3, x, Av, Lv, Cv, rfl, hxr, _, hb3, f0, f1, sv, -⟩ := row_at (sr.grow hG1) hlt2
          have hmem := mem_of_at hxr.out
          have hvl : x.vals.length = t'.cols.length := HFIT.out x hmem
          have hLv : Lv = t'.cols.length := by rw [← hvl]; exact sv.1.symm
          have j0 : (0 : Int) ≤ (j : Int) := Int.natCast_nonneg j
          have j1 : (j : Int) < (Lr : Int) := Int.ofNat_lt.mpr hlt2
          obtain ⟨q0, hq0⟩ : ∃ q0, (!noNullB t'.cols x.vals) = q0 := ⟨_, rfl⟩
          obtain ⟨q1, hq1⟩ : ∃ q1, (!checkedB t' x.vals) = q1 := ⟨_, rfl⟩
          obtain ⟨q2, hq2⟩ : ∃ q2, (!(rivalV t' d.rows x.id x.vals).isEmpty) = q2 := ⟨_, rfl⟩
          obtain ⟨q3, hq3⟩ : ∃ q3, lostRow s db t' x.vals deferred = q3 := ⟨_, rfl⟩
          have hn := Lib.hid (show (d.rows.take (j + 1)).flatMap (flawR s db deferred k t' d.rows) = (d.rows.take j).flatMap (flawR s db deferred k t' d.rows) ++ flUp q0 q1 q2 q3 k x.id 4 by rw [take_flat _ hxr.out, flUp_four, ← hq0, ← hq1, ← hq2, ← hq3]; rfl)
          have Q0 := Lib.hid hq0
          obtain ⟨p1, hp1⟩ : ∃ p1, checkedB t' x.vals = p1 := ⟨_, rfl⟩
          have Q1 := Lib.hid hp1
          have hpq := Lib.hid (show (!p1) = q1 by rw [← hp1, hq1])
          have Q2 := Lib.hid hq2
          have Q3 := Lib.hid hq3
          have HVL := Lib.hid hvl
          have HLV := Lib.hid hLv
          clear hq0 hq1 hq2 hq3 hp1 hvl hmem hLv
          go_wp2_with fail
          generalize hX : World.alloc wr _ = X
          obtain ⟨gX, sX, bX⟩ := boxedB hX
          clear hX
          have ownX := own1.grow gX
          have kR : Kept X P1 wr.heap.size (.cells #[.int .i64 x.id, .slice Av Lv Cv] 48 (0, 0)) := ⟨sX, own1.ltB (Nat.le_refl _), bX⟩
          obtain ⟨nr, hnr⟩ : ∃ nr, nr = wr.heap.size := ⟨_, rfl⟩
          rw [← hnr] at kR
          have kDX := kD.grow gX
          have kTX := kT.grow gX
          obtain ⟨fR, gR⟩ := free_of bX
          obtain ⟨fD, gD⟩ := free_of kDX.2.2
          obtain ⟨fT, gT⟩ := free_of kTX.2.2
          have lD := kDX.1
          have lT := kTX.1
          rw [hnd] at fD fT gD gT lD lT
          have R0 := fR 0
          have R1 := fR 1
          have D0 := fD 0
          have T0 := fT 0
          have T1 := fT 1
          have T2 := fT 2
          have T3 := fT 3
          have T4 := fT 4
          have T5 := fT 5
          have gWX := hG1.trans gX
          clear f0 f1
          refine wp_region_held_drew (S := (fun w' => Grow X w' ∧ Same X w')) (by kernel_rfl) (by exact Grow.both (by repeat (with_reducible first | exact Grow.refl _ | assumption | refine Grow.drew ?_ | refine Grow.alloc ?_ _ | refine Grow.set ?_ (by first | exact Nat.le_refl _ | (simp; done) | (simp; omega) | omega) _ | exact And.left (by assumption) | refine Grow.trans ?_ (by assumption)))) (fun hHeld => ?_)
          have HT := Lib.hid (Kd.grow Kd.table hrdT gWX)
          have SV := Lib.hid (sv.grow gX)
          have SR := Lib.hid (sr.grow gWX)
          have SA := Lib.hid (hs.grow gWX)
          have SD := Lib.hid (hd.grow gWX)
          have HFV := Lib.hid (show ∀ f ∈ t'.fks, FkIn s db Lv f from by rw [HLV.out]; exact HFK.out)
          have hLr60 : Lr ≤ 1048576 := by omega
          ((refine tk 0 34 rfl rfl (v := ?_) ?_ ?_; rotate_left 1; (focus (intro w hSw; (try dsimp only at hSw); go_simp; (try with_reducible rfl); done)); all_goals (try simp only [Act.put, List.setIfInBounds_toArray, List.set_cons_zero, List.set_cons_succ])); (refine tk 1 35 rfl rfl (v := ?_) ?_ ?_; rotate_left 1; (focus (intro w hSw; (try dsimp only at hSw); go_simp; (try with_reducible rfl); done)); all_goals (try simp only [Act.put, List.setIfInBounds_toArray, List.set_cons_zero, List.set_cons_succ])); (refine tk 2 36 rfl rfl (v := ?_) ?_ ?_; rotate_left 1; (focus (intro w hSw; (try dsimp only at hSw); go_simp; (try with_reducible rfl); done)); all_goals (try simp only [Act.put, List.setIfInBounds_toArray, List.set_cons_zero, List.set_cons_succ])); (refine tk 4 38 rfl rfl (v := ?_) ?_ ?_; rotate_left 1; (focus (intro w hSw; (try dsimp only at hSw); go_simp; (try with_reducible rfl); done)); all_goals (try simp only [Act.put, List.setIfInBounds_toArray, List.set_cons_zero, List.set_cons_succ])); (refine tk 5 39 rfl rfl (v := ?_) ?_ ?_; rotate_left 1; (focus (intro w hSw; (try dsimp only at hSw); go_simp; (try with_reducible rfl); done)); all_goals (try simp only [Act.put, List.setIfInBounds_toArray, List.set_cons_zero, List.set_cons_succ])); (refine tk 6 40 rfl rfl (v := ?_) ?_ ?_; rotate_left 1; (focus (intro w hSw; (try dsimp only at hSw); go_simp; (try with_reducible rfl); done)); all_goals (try simp only [Act.put, List.setIfInBounds_toArray, List.set_cons_zero, List.set_cons_succ])); (refine tk 9 43 rfl rfl (v := ?_) ?_ ?_; rotate_left 1; (focus (intro w hSw; (try dsimp only at hSw); go_simp; (try with_reducible rfl); done)); all_goals (try simp only [Act.put, List.setIfInBounds_toArray, List.set_cons_zero, List.set_cons_succ])); (refine tk 10 44 rfl rfl (v := ?_) ?_ ?_; rotate_left 1; (focus (intro w hSw; (try dsimp only at hSw); go_simp; (try with_reducible rfl); done)); all_goals (try simp only [Act.put, List.setIfInBounds_toArray, List.set_cons_zero, List.set_cons_succ])); (refine tk 11 45 rfl rfl (v := ?_) ?_ ?_; rotate_left 1; (focus (intro w hSw; (try dsimp only at hSw); go_simp; (try with_reducible rfl); done)); all_goals (try simp only [Act.put, List.setIfInBounds_toArray, List.set_cons_zero, List.set_cons_succ])); (refine tk 12 46 rfl rfl (v := ?_) ?_ ?_; rotate_left 1; (focus (intro w hSw; (try dsimp only at hSw); go_simp; (try with_reducible rfl); done)); all_goals (try simp only [Act.put, List.setIfInBounds_toArray, List.set_cons_zero, List.set_cons_succ])); (refine tk 13 47 rfl rfl (v := ?_) ?_ ?_; rotate_left 1; (focus (intro w hSw; (try dsimp only at hSw); go_simp; (try with_reducible rfl); done)); all_goals (try simp only [Act.put, List.setIfInBounds_toArray, List.set_cons_zero, List.set_cons_succ])); (refine tk 14 48 rfl rfl (v := ?_) ?_ ?_; rotate_left 1; (focus (intro w hSw; (try dsimp only at hSw); go_simp; (try with_reducible rfl); done)); all_goals (try simp only [Act.put, List.setIfInBounds_toArray, List.set_cons_zero, List.set_cons_succ])); (refine tk 15 49 rfl rfl (v := ?_) ?_ ?_; rotate_left 1; (focus (intro w hSw; (try dsimp only at hSw); go_simp; (try with_reducible rfl); done)); all_goals (try simp only [Act.put, List.setIfInBounds_toArray, List.set_cons_zero, List.set_cons_succ])); (refine tk 19 53 rfl rfl (v := ?_) ?_ ?_; rotate_left 1; (focus (intro w hSw; (try dsimp only at hSw); go_simp; (try with_reducible rfl); done)); all_goals (try simp only [Act.put, List.setIfInBounds_toArray, List.set_cons_zero, List.set_cons_succ])); (refine tk 20 54 rfl rfl (v := ?_) ?_ ?_; rotate_left 1; (focus (intro w hSw; (try dsimp only at hSw); go_simp; (try with_reducible rfl); done)); all_goals (try simp only [Act.put, List.setIfInBounds_toArray, List.set_cons_zero, List.set_cons_succ])); (refine tk 21 55 rfl rfl (v := ?_) ?_ ?_; rotate_left 1; (focus (intro w hSw; (try dsimp only at hSw); go_simp; (try with_reducible rfl); done)); all_goals (try simp only [Act.put, List.setIfInBounds_toArray, List.set_cons_zero, List.set_cons_succ])); (refine tk 22 56 rfl rfl (v := ?_) ?_ ?_; rotate_left 1; (focus (intro w hSw; (try dsimp only at hSw); go_simp; (try with_reducible rfl); done)); all_goals (try simp only [Act.put, List.setIfInBounds_toArray, List.set_cons_zero, List.set_cons_succ])); (refine tk 23 57 rfl rfl (v := ?_) ?_ ?_; rotate_left 1; (focus (intro w hSw; (try dsimp only at hSw); go_simp; (try with_reducible rfl); done)); all_goals (try simp only [Act.put, List.setIfInBounds_toArray, List.set_cons_zero, List.set_cons_succ])); (refine tk 24 58 rfl rfl (v := ?_) ?_ ?_; rotate_left 1; (focus (intro w hSw; (try dsimp only at hSw); go_simp; (try with_reducible rfl); done)); all_goals (try simp only [Act.put, List.setIfInBounds_toArray, List.set_cons_zero, List.set_cons_succ])); (refine tk 27 61 rfl rfl (v := ?_) ?_ ?_; rotate_left 1; (focus (intro w hSw; (try dsimp only at hSw); go_simp; (try with_reducible rfl); done)); all_goals (try simp only [Act.put, List.setIfInBounds_toArray, List.set_cons_zero, List.set_cons_succ])))
          (refine wpAnyH_ready (rs := [3]) (by kernel_rfl) (by simp) ?_; refine AllReadyH.cons rfl (fun K hK => ?_) AllReadyH.nil; go_simp; (go_at_call 79; refine (hasNull_eq Q0.out _ (Kd.grow Kd.table HT.out (And.left (by assumption))) (SV.out.grow (And.left (by assumption))) HVL.out).mono ?_; rintro e w5 ⟨rfl, hb5⟩); refine hK.out _ _ (by exact Grow.both (by repeat (with_reducible first | exact Grow.refl _ | assumption | refine Grow.drew ?_ | refine Grow.alloc ?_ _ | refine Grow.set ?_ (by first | exact Nat.le_refl _ | (simp; done) | (simp; omega) | omega) _ | exact And.left (by assumption) | refine Grow.trans ?_ (by assumption)))) (fun hHeld => ?_); clear hK K; (try refine held_put 37 rfl ?_); (try simp only [Act.put, List.setIfInBounds_toArray, List.set_cons_zero, List.set_cons_succ]))
          (refine wpAnyH_ready (rs := [7]) (by kernel_rfl) (by simp) ?_; refine AllReadyH.cons rfl (fun K hK => ?_) AllReadyH.nil; go_simp; (go_at_call 80; refine (isChecked_eq Q1.out _ (Kd.grow Kd.table HT.out (And.left (by assumption))) (SV.out.grow (And.left (by assumption)))).mono ?_; rintro e w6 ⟨rfl, hb6⟩); refine hK.out _ _ (by exact Grow.both (by repeat (with_reducible first | exact Grow.refl _ | assumption | refine Grow.drew ?_ | refine Grow.alloc ?_ _ | refine Grow.set ?_ (by first | exact Nat.le_refl _ | (simp; done) | (simp; omega) | omega) _ | exact And.left (by assumption) | refine Grow.trans ?_ (by assumption)))) (fun hHeld => ?_); clear hK K; (try refine held_put 41 rfl ?_); (try simp only [Act.put, List.setIfInBounds_toArray, List.set_cons_zero, List.set_cons_succ]))
          (refine held_take (i := 8) 42 (v := (.bool q1)) rfl rfl (by kernel_rfl) (by kernel_rfl) (by kernel_rfl) (fun _ _ _ h => h) (by kernel_rfl) ?_ (by assumption) ?_; (focus (intro w hSw; (try dsimp only at hSw); go_simp; (simpa using hpq.out))); all_goals (try simp only [Act.put, List.setIfInBounds_toArray, List.set_cons_zero, List.set_cons_succ]))
          (refine wpAnyH_ready (rs := [16]) (by kernel_rfl) (by simp) ?_; refine AllReadyH.cons rfl (fun K hK => ?_) AllReadyH.nil; go_simp; (go_at_call 81; refine (rivals_eq Q2.out _ (Kd.grow Kd.table HT.out (And.left (by assumption))) (SR.out.grow (And.left (by assumption))) (SV.out.grow (And.left (by assumption))) HKI.out HU3.out HVL.out HFIT.out hLr60).mono ?_; rintro e w7 ⟨P7, l7, c7, rfl, hq7, hb7⟩); refine hK.out _ _ (by exact Grow.both (by repeat (with_reducible first | exact Grow.refl _ | assumption | refine Grow.drew ?_ | refine Grow.alloc ?_ _ | refine Grow.set ?_ (by first | exact Nat.le_refl _ | (simp; done) | (simp; omega) | omega) _ | exact And.left (by assumption) | refine Grow.trans ?_ (by assumption)))) (fun hHeld => ?_); clear hK K; (try refine held_put 50 rfl ?_); (try simp only [Act.put, List.setIfInBounds_toArray, List.set_cons_zero, List.set_cons_succ]))
          ((refine tk 17 51 rfl rfl (v := ?_) ?_ ?_; rotate_left 1; (focus (intro w hSw; (try dsimp only at hSw); go_simp; (try with_reducible rfl); done)); all_goals (try simp only [Act.put, List.setIfInBounds_toArray, List.set_cons_zero, List.set_cons_succ])))
          (refine held_take (i := 18) 52 (v := (.bool q2)) rfl rfl (by kernel_rfl) (by kernel_rfl) (by kernel_rfl) (fun _ _ _ h => h) (by kernel_rfl) ?_ (by assumption) ?_; (focus (intro w hSw; (try dsimp only at hSw); go_simp; (simpa using hq7))); all_goals (try simp only [Act.put, List.setIfInBounds_toArray, List.set_cons_zero, List.set_cons_succ]))
          (refine wpAnyH_ready (rs := [25]) (by kernel_rfl) (by simp) ?_; refine AllReadyH.cons rfl (fun K hK => ?_) AllReadyH.nil; go_simp; (go_at_call 82; refine (isLostRow_eq Q3.out _ (SA.out.grow (And.left (by assumption))) (SD.out.grow (And.left (by assumption))) (Kd.grow Kd.table HT.out (And.left (by assumption))) (SV.out.grow (And.left (by assumption))) HFV.out).mono ?_; rintro e w8 ⟨rfl, hb8⟩); refine hK.out _ _ (by exact Grow.both (by repeat (with_reducible first | exact Grow.refl _ | assumption | refine Grow.drew ?_ | refine Grow.alloc ?_ _ | refine Grow.set ?_ (by first | exact Nat.le_refl _ | (simp; done) | (simp; omega) | omega) _ | exact And.left (by assumption) | refine Grow.trans ?_ (by assumption)))) (fun hHeld => ?_); clear hK K; (try refine held_put 59 rfl ?_); (try simp only [Act.put, List.setIfInBounds_toArray, List.set_cons_zero, List.set_cons_succ]))
          ((refine tk 26 60 rfl rfl (v := ?_) ?_ ?_; rotate_left 1; (focus (intro w hSw; (try dsimp only at hSw); go_simp; (try with_reducible rfl); done)); all_goals (try simp only [Act.put, List.setIfInBounds_toArray, List.set_cons_zero, List.set_cons_succ])))
          refine wpAnyH_done (by kernel_rfl) ?_ _
          obtain ⟨gY, _⟩ : Grow X w8 ∧ Same X w8 := by assumption
          have own3 := ownX.grow gY
          have kD3 := kDX.grow gY
          have kT3 := kTX.grow gY
          have kR3 := kR.grow gY
          clear ownX own1 kDX kTX kR kD kT fR gR fD gD fT gT lD lT R0 R1 D0 T0 T1 T2 T3 T4 T5 HT SV SR SA SD bX
          go_wp2
          go_loopw [7, 61] (fun sv i wr => ∃ (m n c : Nat) (P : Option Addr), m ≤ 4 ∧ i = .int .i64 m ∧ sv = .slice P n c ∧ n ≤ 240 * k + 4 * j + m ∧ OwnF Kd.flaw 123 w wr P n c ((List.range k).flatMap (flawD s db deferred) ++ (d.rows.take j).flatMap (flawR s db deferred k t' d.rows) ++ flUp q0 q1 q2 q3 k x.id m) ∧
            Kept wr P nd (.cells #[.slice (some ⟨b3, off3, none⟩) Lr Cr] 39 (0, 0)) ∧ Kept wr P (nd + 1) (.cells #[.string t'.name, .slice Acols Lcols Ccols, .slice Akey Lkey Ckey, .slice Auniques Luniques Cuniques, .slice Achecks Lchecks Cchecks, .slice Afks Lfks Cfks] 36 (0, 0)) ∧ Kept wr P nr (.cells #[.int .i64 x.id, .slice Av Lv Cv] 48 (0, 0))) (fun _ i _ => 4 - (intOf i).toNat)
          case atStart => exact ⟨0, n1, c1, P1, Nat.zero_le _, rfl, rfl, by omega, by rw [flUp_zero, List.append_nil]; exact own3, kD3, kT3, kR3⟩
          case round =>
            clear own3 kD3 kT3 kR3
            obtain ⟨m, n2, c2, P2, hm, rfl, rfl, hn2, own2, kD2, kT2, kR2⟩ := hrel
            have hm5 : m = 0 ∨ m = 1 ∨ m = 2 ∨ m = 3 ∨ m = 4 := by omega
            rcases hm5 with rfl | rfl | rfl | rfl | rfl
            · have hs4 := flUp_step q0 q1 q2 q3 (k : Int) x.id 0 q0 1 (by simp)
              cases q0 with
              | false =>
                have own3 := own2
                rw [flawIf_no, List.append_nil] at hs4
                rw [← hs4] at own3
                clear hs4 own2
                go_wp2
                go_roundw
                case rel => exact ⟨1, n2, c2, P2, by omega, by go_num, rfl, by omega, own3, kD2, kT2, kR2⟩
                case measure => simp [intOf]
              | true =>
                rw [flawIf_yes] at hs4
                have HZ := Lib.hid hs4
                clear hs4
                obtain ⟨fR, gR⟩ := free_of kR2.2.2
                have R0 := fR 0
                have lR := kR2.1
                rw [hnr] at R0 lR
                have own3 := own2.grow ((Grow.refl wr).alloc (.cells #[.int .i64 1, .int .i64 k, .int .i64 x.id] 123))
                have kD3 := kD2.grow ((Grow.refl wr).alloc (.cells #[.int .i64 1, .int .i64 k, .int .i64 x.id] 123))
                have kT3 := kT2.grow ((Grow.refl wr).alloc (.cells #[.int .i64 1, .int .i64 k, .int .i64 x.id] 123))
                have kR3 := kR2.grow ((Grow.refl wr).alloc (.cells #[.int .i64 1, .int .i64 k, .int .i64 x.id] 123))
                clear fR gR
                go_wp2_with (at_builtin; refine wpList_app plain_flaw ones_flaw elem_flaw rfl (.tmp 66) (.tmp 73) (by rfl) (by rfl) own3 (by rfl) (isSl_one (x := ⟨1, (k : Int), x.id⟩) (by decide) (new_block _ _) ⟨rfl, trivial⟩) (q := n2 + 1) rfl (by unfold maxLen; omega) (by omega) (fun A3 c3 w3 ap3 => ?_))
                have ownZ := ap3.own
                rw [List.append_assoc, ← HZ.out] at ownZ
                go_roundw
                case rel => exact ⟨1, n2 + 1, c3, A3, by omega, by go_num, rfl, by omega, ownZ, kD3.app ap3, kT3.app ap3, kR3.app ap3⟩
                case measure => simp [intOf]
            · have hs4 := flUp_step q0 q1 q2 q3 (k : Int) x.id 1 q1 2 (by simp)
              cases q1 with
              | false =>
                have own3 := own2
                rw [flawIf_no, List.append_nil] at hs4
                rw [← hs4] at own3
                clear hs4 own2
                go_wp2
                go_roundw
                case rel => exact ⟨2, n2, c2, P2, by omega, by go_num, rfl, by omega, own3, kD2, kT2, kR2⟩
                case measure => simp [intOf]
              | true =>
                rw [flawIf_yes] at hs4
                have HZ := Lib.hid hs4
                clear hs4
                obtain ⟨fR, gR⟩ := free_of kR2.2.2
                have R0 := fR 0
                have lR := kR2.1
                rw [hnr] at R0 lR
                have own3 := own2.grow ((Grow.refl wr).alloc (.cells #[.int .i64 2, .int .i64 k, .int .i64 x.id] 123))
                have kD3 := kD2.grow ((Grow.refl wr).alloc (.cells #[.int .i64 2, .int .i64 k, .int .i64 x.id] 123))
                have kT3 := kT2.grow ((Grow.refl wr).alloc (.cells #[.int .i64 2, .int .i64 k, .int .i64 x.id] 123))
                have kR3 := kR2.grow ((Grow.refl wr).alloc (.cells #[.int .i64 2, .int .i64 k, .int .i64 x.id] 123))
                clear fR gR
                go_wp2_with (at_builtin; refine wpList_app plain_flaw ones_flaw elem_flaw rfl (.tmp 66) (.tmp 73) (by rfl) (by rfl) own3 (by rfl) (isSl_one (x := ⟨2, (k : Int), x.id⟩) (by decide) (new_block _ _) ⟨rfl, trivial⟩) (q := n2 + 1) rfl (by unfold maxLen; omega) (by omega) (fun A3 c3 w3 ap3 => ?_))
                have ownZ := ap3.own
                rw [List.append_assoc, ← HZ.out] at ownZ
                go_roundw
                case rel => exact ⟨2, n2 + 1, c3, A3, by omega, by go_num, rfl, by omega, ownZ, kD3.app ap3, kT3.app ap3, kR3.app ap3⟩
                case measure => simp [intOf]
            · have hs4 := flUp_step q0 q1 q2 q3 (k : Int) x.id 2 q2 3 (by simp)
              cases q2 with
              | false =>
                have own3 := own2
                rw [flawIf_no, List.append_nil] at hs4
                rw [← hs4] at own3
                clear hs4 own2
                go_wp2
                go_roundw
                case rel => exact ⟨3, n2, c2, P2, by omega, by go_num, rfl, by omega, own3, kD2, kT2, kR2⟩
                case measure => simp [intOf]
              | true =>
                rw [flawIf_yes] at hs4
                have HZ := Lib.hid hs4
                clear hs4
                obtain ⟨fR, gR⟩ := free_of kR2.2.2
                have R0 := fR 0
                have lR := kR2.1
                rw [hnr] at R0 lR
                have own3 := own2.grow ((Grow.refl wr).alloc (.cells #[.int .i64 3, .int .i64 k, .int .i64 x.id] 123))
                have kD3 := kD2.grow ((Grow.refl wr).alloc (.cells #[.int .i64 3, .int .i64 k, .int .i64 x.id] 123))
                have kT3 := kT2.grow ((Grow.refl wr).alloc (.cells #[.int .i64 3, .int .i64 k, .int .i64 x.id] 123))
                have kR3 := kR2.grow ((Grow.refl wr).alloc (.cells #[.int .i64 3, .int .i64 k, .int .i64 x.id] 123))
                clear fR gR
                go_wp2_with (at_builtin; refine wpList_app plain_flaw ones_flaw elem_flaw rfl (.tmp 66) (.tmp 73) (by rfl) (by rfl) own3 (by rfl) (isSl_one (x := ⟨3, (k : Int), x.id⟩) (by decide) (new_block _ _) ⟨rfl, trivial⟩) (q := n2 + 1) rfl (by unfold maxLen; omega) (by omega) (fun A3 c3 w3 ap3 => ?_))
                have ownZ := ap3.own
                rw [List.append_assoc, ← HZ.out] at ownZ
                go_roundw
                case rel => exact ⟨3, n2 + 1, c3, A3, by omega, by go_num, rfl, by omega, ownZ, kD3.app ap3, kT3.app ap3, kR3.app ap3⟩
                case measure => simp [intOf]
            · have hs4 := flUp_step q0 q1 q2 q3 (k : Int) x.id 3 q3 4 (by simp)
              cases q3 with
              | false =>
                have own3 := own2
                rw [flawIf_no, List.append_nil] at hs4
                rw [← hs4] at own3
                clear hs4 own2
                go_wp2
                go_roundw
                case rel => exact ⟨4, n2, c2, P2, by omega, by go_num, rfl, by omega, own3, kD2, kT2, kR2⟩
                case measure => simp [intOf]
              | true =>
                rw [flawIf_yes] at hs4
                have HZ := Lib.hid hs4
                clear hs4
                obtain ⟨fR, gR⟩ := free_of kR2.2.2
                have R0 := fR 0
                have lR := kR2.1
                rw [hnr] at R0 lR
                have own3 := own2.grow ((Grow.refl wr).alloc (.cells #[.int .i64 4, .int .i64 k, .int .i64 x.id] 123))
                have kD3 := kD2.grow ((Grow.refl wr).alloc (.cells #[.int .i64 4, .int .i64 k, .int .i64 x.id] 123))
                have kT3 := kT2.grow ((Grow.refl wr).alloc (.cells #[.int .i64 4, .int .i64 k, .int .i64 x.id] 123))
                have kR3 := kR2.grow ((Grow.refl wr).alloc (.cells #[.int .i64 4, .int .i64 k, .int .i64 x.id] 123))
                clear fR gR
                go_wp2_with (at_builtin; refine wpList_app plain_flaw ones_flaw elem_flaw rfl (.tmp 66) (.tmp 73) (by rfl) (by rfl) own3 (by rfl) (isSl_one (x := ⟨4, (k : Int), x.id⟩) (by decide) (new_block _ _) ⟨rfl, trivial⟩) (q := n2 + 1) rfl (by unfold maxLen; omega) (by omega) (fun A3 c3 w3 ap3 => ?_))
                have ownZ := ap3.own
                rw [List.append_assoc, ← HZ.out] at ownZ
                go_roundw
                case rel => exact ⟨4, n2 + 1, c3, A3, by omega, by go_num, rfl, by omega, ownZ, kD3.app ap3, kT3.app ap3, kR3.app ap3⟩
                case measure => simp [intOf]
            · have own4 := own2
              rw [List.append_assoc, ← hn.out] at own4
              go_wp2
              go_roundw
              case rel => exact ⟨j + 1, n2, c2, P2, by omega, by go_num, rfl, by omega, own4, kD2, kT2⟩
              case measure => simp [intOf]; omega
        · obtain rfl : j = Lr := by omega
          have own2 := own1
          rw [List.take_of_length_le (by rw [HRL.out]; exact Nat.le_refl _), ← hFD.out, ← range_flat] at own2
          go_wp2
          go_roundw
          case rel => exact ⟨k + 1, n1, c1, P1, by omega, by go_num, rfl, by omega, own2⟩
          case measure => simp [intOf]; omega
    · obtain rfl : k = lb := by omega
      have own2 := own0
      have hfl : (List.range k).flatMap (flawD s db deferred) = flawsV s db deferred := by rw [flawsV, HDL.out]
      rw [hfl] at own2
      go_wp2
      go_ret
      exact ⟨_, _, _, rfl, own2.isSl, hG0⟩
end Go.Proofs.YtjeilgogjoidjaaGreat
