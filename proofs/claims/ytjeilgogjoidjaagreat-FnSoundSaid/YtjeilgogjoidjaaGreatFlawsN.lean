import Derived.Test.YtjeilgogjoidjaaGreatFlawsM
import Derived.Deep.DeepCutAuto
import Derived.Deep.CutBlock
/-! The reference's flaws, all of them. -/
namespace Go.Proofs.YtjeilgogjoidjaaGreat
open Go.RowKit
set_option linter.unusedVariables false
set_option linter.unusedSimpArgs false
theorem row_checksN {t : Table} {vals : List Val} (h : tableOkB t = true) (hf : fitB t.cols vals = true) : okVals vals = true ∧ ∀ c ∈ t.checks, exprL vals.length c.expr = true :=
  ⟨fit_ok hf (tableOk_cols h).2, by rw [fit_len hf]; exact table_checks h⟩
theorem l4Nulls_eq {cs : List Value} {t : Table} {B : Option Addr} {lb cb : Nat} {vals : List Val} {r : Bool} (hr : noNullB t.cols vals = r) (w : World) (h : Kd.table.rd w (· < w.heap.size) cs t) (hv : IsSl Kd.val w (· < w.heap.size) B lb cb vals) (hl : vals.length = t.cols.length) :
    Calls Tryz.prog 85 #[.agg cs.toArray, .slice B lb cb] w (Ret w (.bool r)) := by
  subst hr; exact l4Nulls_any cs t w h hv hl
theorem l4Checks_eq {cs : List Value} {t : Table} {B : Option Addr} {lb cb : Nat} {vals : List Val} {r : Bool} (hr : checkedB t vals = r) (w : World) (h : Kd.table.rd w (· < w.heap.size) cs t) (hv : IsSl Kd.val w (· < w.heap.size) B lb cb vals) (hok : okVals vals = true) (hex : ∀ c ∈ t.checks, exprL vals.length c.expr = true) :
    Calls Tryz.prog 86 #[.agg cs.toArray, .slice B lb cb] w (Ret w (.bool r)) := by
  subst hr; exact l4Checks_any cs t w h hv hok hex
theorem l5Unique_eq {x : Row} {cs : List Value} {t : Table} {A C : Option Addr} {la ca lc cc : Nat} {rows : List Row} {r : Bool} (hb : aloneB t rows x = r) (w : World) (h : Kd.table.rd w (· < w.heap.size) cs t) (hr : IsSl Kd.row w (· < w.heap.size) A la ca rows) (hv : IsSl Kd.val w (· < w.heap.size) C lc cc x.vals)
    (hk : KeysIn t) (hu3 : t.uniques.length ≤ 3) (hvl : x.vals.length = t.cols.length) (hrl : ∀ r ∈ rows, r.vals.length = t.cols.length) (hla : la ≤ 1048576) :
    Calls Tryz.prog 87 #[.agg cs.toArray, .agg #[.slice A la ca], .agg #[.int .i64 x.id, .slice C lc cc]] w (Ret w (.bool r)) := by
  subst hb; exact l5Unique_any cs t w h hr hv hk hu3 hvl hrl hla
theorem l5Refers_eq {wait : Bool} {A B C : Option Addr} {la ca lb cb lc cc : Nat} {s : List Table} {db : List Data} {vals : List Val} {q : Nat} {t : Table} {r : Bool} (hr : lostRow s db t vals (!wait) = r) (w : World) (hs : IsSl Kd.table w (· < w.heap.size) A la ca s) (hd : IsSl Kd.data w (· < w.heap.size) B lb cb db)
    (hv : IsSl Kd.val w (· < w.heap.size) C lc cc vals) (hq : s[q]? = some t) (hin : ∀ f ∈ t.fks, FkIn s db lc f) : Calls Tryz.prog 88 #[.slice A la ca, .slice B lb cb, .int .i64 q, .slice C lc cc, .bool wait] w (Ret w (.bool (!r))) := by
  subst hr; exact l5Refers_any wait w hs hd hv hq hin
set_option maxRecDepth 4000 in
set_option maxHeartbeats 8000000 in
theorem l5Flaws_any (wait : Bool) {A B : Option Addr} {la ca lb cb : Nat} {s : List Table} {db : List Data} (w : World) (hs : IsSl Kd.table w (· < w.heap.size) A la ca s) (hd : IsSl Kd.data w (· < w.heap.size) B lb cb db) (hok : dbOkB s db = true) :
    Calls Tryz.prog 37 #[.slice A la ca, .slice B lb cb, .bool wait] w (FlawsRes (flawsV s db (!wait)) w) := by
  have HOK := Lib.hid hok
  have hS : schemaOkB s = true := by simp only [dbOkB, Bool.and_eq_true] at hok; exact hok.1
  have hll : lb = la := by
    have := hok
    simp only [dbOkB, Bool.and_eq_true] at this
    have := db_len this.2
    rw [hd.1, hs.1] at this
    exact this
  have h5 : la ≤ 5 := by rw [← hs.1]; exact schemaOk_len hS
  have HS := Lib.hid hS
  have HDL := Lib.hid hd.1
  subst hll
  clear hok hS
  go_enter Tryz.func37, Tryz.ntmps37
  go_wp2
  go_loopw [7, 8] (fun sv i wr => ∃ (k n c : Nat) (P : Option Addr), k ≤ lb ∧ i = .int .i64 k ∧ sv = .slice P n c ∧ n ≤ 240 * k ∧ OwnF Kd.flaw 123 w wr P n c ((List.range k).flatMap (flawD s db (!wait)))) (fun _ i _ => lb - (intOf i).toNat)
  case atStart => exact ⟨0, 0, 0, _, Nat.zero_le _, rfl, rfl, Nat.zero_le _, OwnF.made (Grow.refl _)⟩
  case round =>
    obtain ⟨k, n0, c0, P0, hk, rfl, rfl, hn0, own0⟩ := hrel
    have hG0 := own0.grows
    by_cases hlt : k < lb
    · obtain ⟨b1, off1, d, Ar, Lr, Cr, rfl, hxd, _, hb1, e0, sr, hrdD⟩ := data_at hd hlt
      obtain ⟨b2, off2, t, Acols, Lcols, Ccols, Akey, Lkey, Ckey, Auniques, Luniques, Cuniques, Achecks, Lchecks, Cchecks, Afks, Lfks, Cfks, rfl, hxt, _, hb2, zname, d0, d1, d2, d3, d4, d5, -, -, -, -, -, hrdT⟩ := table_at hs hlt
      obtain ⟨t', ht', hT, hr60, hfit⟩ := db_table HOK.out hxd.out
      obtain rfl : t' = t := Option.some.inj (ht'.symm.trans hxt.out)
      obtain ⟨hKI, hu3⟩ := keysIn_of hT
      have hFK : ∀ f ∈ t'.fks, FkIn s db t'.cols.length f := fun f hf => fkIn_of HOK.out hxt.out hf
      have HKI := Lib.hid hKI
      have HU3 := Lib.hid hu3
      have HFK := Lib.hid hFK
      have HTO := Lib.hid hT
      have HFT := Lib.hid hfit
      have HFIT := Lib.hid (show ∀ r ∈ d.rows, r.vals.length = t'.cols.length from fun r hr => fit_len (hfit r hr))
      have HRL := Lib.hid sr.1
      have hr60' : Lr ≤ 60 := by rw [← sr.1]; exact hr60
      have hLr60 : Lr ≤ 1048576 := by omega
      have hFD := Lib.hid (flawD_at (deferred := !wait) hxd.out hxt.out)
      have i0 : (0 : Int) ≤ (k : Int) := Int.natCast_nonneg k
      have i1 : (k : Int) < (lb : Int) := Int.ofNat_lt.mpr hlt
      clear ht' hKI hu3 hFK hfit hr60 hT
      go_wp2
      go_loopw [7, 9] (fun sv i wr => ∃ (j n c : Nat) (P : Option Addr), j ≤ Lr ∧ i = .int .i64 j ∧ sv = .slice P n c ∧ n ≤ 240 * k + 4 * j ∧ OwnF Kd.flaw 123 w wr P n c ((List.range k).flatMap (flawD s db (!wait)) ++ (d.rows.take j).flatMap (flawR s db (!wait) k t' d.rows))) (fun _ i _ => Lr - (intOf i).toNat)
      case atStart => exact ⟨0, n0, c0, P0, Nat.zero_le _, rfl, rfl, by omega, by simpa using own0⟩
      case round =>
        obtain ⟨j, nN, cN, PN, hj, rfl, rfl, hnN, own1⟩ := hrel
        have hG1 := own1.grows
        have a0 := (hG1.same _ _ hb1).trans e0
        have hb1r := Nat.lt_of_lt_of_le hb1 hG1.size
        by_cases hlt2 : j < Lr
        · obtain ⟨b3, off3, x, Av, Lv, Cv, rfl, hxr, _, hb3, f0, f1, svw, -⟩ := row_at sr hlt2
          have f0r := (hG1.same _ _ hb3).trans f0
          have f1r := (hG1.same _ _ hb3).trans f1
          have hb3r := Nat.lt_of_lt_of_le hb3 hG1.size
          have hmem := mem_of_at hxr.out
          have hvl : x.vals.length = t'.cols.length := HFIT.out x hmem
          have hLv : Lv = t'.cols.length := by rw [← hvl]; exact svw.1.symm
          obtain ⟨hov, hex⟩ := row_checksN HTO.out (HFT.out x hmem)
          have HOV := Lib.hid hov
          have HEX := Lib.hid hex
          have j0 : (0 : Int) ≤ (j : Int) := Int.natCast_nonneg j
          have j1 : (j : Int) < (Lr : Int) := Int.ofNat_lt.mpr hlt2
          obtain ⟨p0, hp0⟩ : ∃ p, noNullB t'.cols x.vals = p := ⟨_, rfl⟩
          obtain ⟨p1, hp1⟩ : ∃ p, checkedB t' x.vals = p := ⟨_, rfl⟩
          obtain ⟨p2, hp2⟩ : ∃ p, aloneB t' d.rows x = p := ⟨_, rfl⟩
          obtain ⟨q3, hp3⟩ : ∃ p, lostRow s db t' x.vals (!wait) = p := ⟨_, rfl⟩
          obtain ⟨q0, hq0⟩ : ∃ q, (!p0) = q := ⟨_, rfl⟩
          obtain ⟨q1, hq1⟩ : ∃ q, (!p1) = q := ⟨_, rfl⟩
          obtain ⟨q2, hq2⟩ : ∃ q, (!p2) = q := ⟨_, rfl⟩
          have hn := Lib.hid (show (d.rows.take (j + 1)).flatMap (flawR s db (!wait) k t' d.rows) = (d.rows.take j).flatMap (flawR s db (!wait) k t' d.rows) ++ flUp q0 q1 q2 q3 k x.id 4 by rw [take_flat _ hxr.out, flUp_four, ← hq0, ← hq1, ← hq2, ← hp0, ← hp1, ← hp2, ← hp3, ← rival_alone]; rfl)
          have Q0 := Lib.hid hp0
          have Q1 := Lib.hid hp1
          have Q2 := Lib.hid hp2
          have Q3 := Lib.hid hp3
          replace hq0 := Lib.hid hq0
          replace hq1 := Lib.hid hq1
          replace hq2 := Lib.hid hq2
          have HVL := Lib.hid hvl
          have HFV := Lib.hid (show ∀ f ∈ t'.fks, FkIn s db Lv f from by rw [hLv]; exact HFK.out)
          clear hp0 hp1 hp2 hp3 hvl hmem hLv hov hex
          go_wp2_with fail
          generalize hX : World.alloc wr _ = X
          obtain ⟨gX, sX, bX⟩ := boxedB hX
          clear hX
          obtain ⟨nr, hnr⟩ : ∃ nr, nr = wr.heap.size := ⟨_, rfl⟩
          have kN : Kept X PN nr (.cells #[.int .i64 x.id, .slice Av Lv Cv] 48 (0, 0)) := by rw [hnr]; exact ⟨sX, own1.ltB (Nat.le_refl _), bX⟩
          have ownN : OwnF Kd.flaw 123 w X PN nN cN ((List.range k).flatMap (flawD s db (!wait)) ++ (d.rows.take j).flatMap (flawR s db (!wait) k t' d.rows) ++ flUp q0 q1 q2 q3 k x.id 0) := by rw [flUp_zero, List.append_nil]; exact own1.grow gX
          clear f0r f1r a0 hb1r own1 bX
          have gN := ownN.grows
          obtain ⟨fR, gR⟩ := free_of kN.2.2
          have lR := kN.1
          rw [hnr] at fR lR
          have R0 := fR 0
          have R1 := fR 1
          have c0 := (gN.same _ _ hb2).trans d0
          have c1 := (gN.same _ _ hb2).trans d1
          have c2 := (gN.same _ _ hb2).trans d2
          have c3 := (gN.same _ _ hb2).trans d3
          have c4 := (gN.same _ _ hb2).trans d4
          have c5 := (gN.same _ _ hb2).trans d5
          have a0 := (gN.same _ _ hb1).trans e0
          have hb2r := Nat.lt_of_lt_of_le hb2 gN.size
          have hb1r := Nat.lt_of_lt_of_le hb1 gN.size
          have HT := Lib.hid (Kd.grow Kd.table hrdT gN)
          have SR := Lib.hid (sr.grow gN)
          have SA := Lib.hid (hs.grow gN)
          have SD := Lib.hid (hd.grow gN)
          have SV := Lib.hid (svw.grow gN)
          clear fR gR
          refine wp_region_held_drew (S := (fun w' => Grow X w' ∧ Same X w')) (by kernel_rfl) (by exact Grow.both (by repeat (with_reducible first | exact Grow.refl _ | assumption | refine Grow.drew ?_ | refine Grow.alloc ?_ _ | refine Grow.set ?_ (by first | exact Nat.le_refl _ | (simp; done) | (simp; omega) | omega) _ | exact And.left (by assumption) | refine Grow.trans ?_ (by assumption)))) (fun hHeld => ?_)
          ((refine tk 0 36 rfl rfl (v := ?_) ?_ ?_; rotate_left 1; (focus (intro w hSw; (try dsimp only at hSw); go_simp; (try with_reducible rfl); done)); all_goals (try simp only [Act.put, List.setIfInBounds_toArray, List.set_cons_zero, List.set_cons_succ])); (refine tk 1 37 rfl rfl (v := ?_) ?_ ?_; rotate_left 1; (focus (intro w hSw; (try dsimp only at hSw); go_simp; (try with_reducible rfl); done)); all_goals (try simp only [Act.put, List.setIfInBounds_toArray, List.set_cons_zero, List.set_cons_succ])); (refine tk 2 38 rfl rfl (v := ?_) ?_ ?_; rotate_left 1; (focus (intro w hSw; (try dsimp only at hSw); go_simp; (try with_reducible rfl); done)); all_goals (try simp only [Act.put, List.setIfInBounds_toArray, List.set_cons_zero, List.set_cons_succ])); (refine tk 3 39 rfl rfl (v := ?_) ?_ ?_; rotate_left 1; (focus (intro w hSw; (try dsimp only at hSw); go_simp; (try with_reducible rfl); done)); all_goals (try simp only [Act.put, List.setIfInBounds_toArray, List.set_cons_zero, List.set_cons_succ])); (refine tk 4 40 rfl rfl (v := ?_) ?_ ?_; rotate_left 1; (focus (intro w hSw; (try dsimp only at hSw); go_simp; (try with_reducible rfl); done)); all_goals (try simp only [Act.put, List.setIfInBounds_toArray, List.set_cons_zero, List.set_cons_succ])); (refine tk 5 41 rfl rfl (v := ?_) ?_ ?_; rotate_left 1; (focus (intro w hSw; (try dsimp only at hSw); go_simp; (try with_reducible rfl); done)); all_goals (try simp only [Act.put, List.setIfInBounds_toArray, List.set_cons_zero, List.set_cons_succ])))
          (refine wpAnyH_ready (rs := [6]) (by kernel_rfl) (by simp) ?_; refine AllReadyH.cons rfl (fun K hK => ?_) AllReadyH.nil; go_simp; (go_at_call 85; refine (l4Nulls_eq Q0.out _ (Kd.grow Kd.table HT.out (And.left (by assumption))) (SV.out.grow (And.left (by assumption))) HVL.out).mono ?_; rintro e wX ⟨rfl, hbX⟩); refine hK.out _ _ (by exact Grow.both (by repeat (with_reducible first | exact Grow.refl _ | assumption | refine Grow.drew ?_ | refine Grow.alloc ?_ _ | refine Grow.set ?_ (by first | exact Nat.le_refl _ | (simp; done) | (simp; omega) | omega) _ | exact And.left (by assumption) | refine Grow.trans ?_ (by assumption)))) (fun hHeld => ?_); clear hK K; (try refine held_put 42 rfl ?_); (try simp only [Act.put, List.setIfInBounds_toArray, List.set_cons_zero, List.set_cons_succ]))
          (refine held_take (i := 7) 43 (v := (.bool q0)) rfl rfl (by kernel_rfl) (by kernel_rfl) (by kernel_rfl) (fun _ _ _ h => h) (by kernel_rfl) ?_ (by assumption) ?_; (focus (intro w hSw; (try dsimp only at hSw); go_simp; (simpa using hq0.out))); all_goals (try simp only [Act.put, List.setIfInBounds_toArray, List.set_cons_zero, List.set_cons_succ]))
          obtain ⟨gX, _⟩ : Grow X wX ∧ Same X wX := by assumption
          refine wpAnyH_done (by kernel_rfl) ?_ _
          have ownX := ownN.grow gX
          have kX := kN.grow gX
          clear ownN kN R1 c0 c1 c2 c3 c4 c5 a0 HT SR SA SD SV gN
          go_upto_if 43 with (fail)
          go_cut [7] (fun sv wx => ∃ (n c : Nat) (P : Option Addr), sv = .slice P n c ∧ n ≤ 240 * k + 4 * j + 1 ∧ OwnF Kd.flaw 123 w wx P n c ((List.range k).flatMap (flawD s db (!wait)) ++ (d.rows.take j).flatMap (flawR s db (!wait) k t' d.rows) ++ flUp q0 q1 q2 q3 k x.id 1) ∧ Kept wx P nr (.cells #[.int .i64 x.id, .slice Av Lv Cv] 48 (0, 0)))
          case first =>
            have hs4 := flUp_step q0 q1 q2 q3 (k : Int) x.id 0 q0 1 (by simp)
            cases q0 with
            | false =>
              rw [flawIf_no, List.append_nil] at hs4
              have own3 := ownX
              rw [← hs4] at own3
              clear hs4
              go_wp2
              go_meet
              exact ⟨nN, cN, PN, rfl, by omega, own3, kX⟩
            | true =>
              rw [flawIf_yes] at hs4
              have HZ := Lib.hid hs4
              clear hs4
              obtain ⟨fR, gR⟩ := free_of kX.2.2
              have lR := kX.1
              rw [hnr] at fR lR
              have R0 : wX.cell? ⟨wr.heap.size, 0, none⟩ = some (.int .i64 x.id) := fR 0
              clear fR gR
              have own3 := ownX.grow ((Grow.refl wX).alloc (.cells #[.int .i64 1, .int .i64 k, .int .i64 x.id] 123))
              have k3 := kX.grow ((Grow.refl wX).alloc (.cells #[.int .i64 1, .int .i64 k, .int .i64 x.id] 123))
              go_wp2_with (at_builtin; refine wpList_app plain_flaw ones_flaw elem_flaw rfl (.tmp 44) (.tmp 49) (by rfl) (by rfl) own3 (by rfl) (isSl_one (x := ⟨1, (k : Int), x.id⟩) (by decide) (new_block _ _) ⟨rfl, trivial⟩) (q := nN + 1) rfl (by unfold maxLen; omega) (by omega) (fun A3 c3 w3 ap3 => ?_))
              have ownZ := ap3.own
              rw [List.append_assoc, ← HZ.out] at ownZ
              go_meet
              exact ⟨nN + 1, c3, A3, rfl, by omega, ownZ, k3.app ap3⟩
          case rest =>
            obtain ⟨nN, cN, PN, rfl, hnN, ownN, kN⟩ := hcut
            obtain ⟨wY1, hY⟩ : ∃ v, v = wc := ⟨_, rfl⟩
            rw [← hY] at ownN kN ⊢
            clear hY
            have gN := ownN.grows
            obtain ⟨fR, gR⟩ := free_of kN.2.2
            have lR := kN.1
            rw [hnr] at fR lR
            have R0 := fR 0
            have R1 := fR 1
            have c0 := (gN.same _ _ hb2).trans d0
            have c1 := (gN.same _ _ hb2).trans d1
            have c2 := (gN.same _ _ hb2).trans d2
            have c3 := (gN.same _ _ hb2).trans d3
            have c4 := (gN.same _ _ hb2).trans d4
            have c5 := (gN.same _ _ hb2).trans d5
            have a0 := (gN.same _ _ hb1).trans e0
            have hb2r := Nat.lt_of_lt_of_le hb2 gN.size
            have hb1r := Nat.lt_of_lt_of_le hb1 gN.size
            have HT := Lib.hid (Kd.grow Kd.table hrdT gN)
            have SR := Lib.hid (sr.grow gN)
            have SA := Lib.hid (hs.grow gN)
            have SD := Lib.hid (hd.grow gN)
            have SV := Lib.hid (svw.grow gN)
            clear fR gR
            go_wp2_with fail
            refine wp_region_held_drew (S := (fun w' => Grow wY1 w' ∧ Same wY1 w')) (by kernel_rfl) (by exact Grow.both (by repeat (with_reducible first | exact Grow.refl _ | assumption | refine Grow.drew ?_ | refine Grow.alloc ?_ _ | refine Grow.set ?_ (by first | exact Nat.le_refl _ | (simp; done) | (simp; omega) | omega) _ | exact And.left (by assumption) | refine Grow.trans ?_ (by assumption)))) (fun hHeld => ?_)
            ((refine tk 0 51 rfl rfl (v := ?_) ?_ ?_; rotate_left 1; (focus (intro w hSw; (try dsimp only at hSw); go_simp; (try with_reducible rfl); done)); all_goals (try simp only [Act.put, List.setIfInBounds_toArray, List.set_cons_zero, List.set_cons_succ])); (refine tk 1 52 rfl rfl (v := ?_) ?_ ?_; rotate_left 1; (focus (intro w hSw; (try dsimp only at hSw); go_simp; (try with_reducible rfl); done)); all_goals (try simp only [Act.put, List.setIfInBounds_toArray, List.set_cons_zero, List.set_cons_succ])); (refine tk 2 53 rfl rfl (v := ?_) ?_ ?_; rotate_left 1; (focus (intro w hSw; (try dsimp only at hSw); go_simp; (try with_reducible rfl); done)); all_goals (try simp only [Act.put, List.setIfInBounds_toArray, List.set_cons_zero, List.set_cons_succ])); (refine tk 3 54 rfl rfl (v := ?_) ?_ ?_; rotate_left 1; (focus (intro w hSw; (try dsimp only at hSw); go_simp; (try with_reducible rfl); done)); all_goals (try simp only [Act.put, List.setIfInBounds_toArray, List.set_cons_zero, List.set_cons_succ])); (refine tk 4 55 rfl rfl (v := ?_) ?_ ?_; rotate_left 1; (focus (intro w hSw; (try dsimp only at hSw); go_simp; (try with_reducible rfl); done)); all_goals (try simp only [Act.put, List.setIfInBounds_toArray, List.set_cons_zero, List.set_cons_succ])); (refine tk 5 56 rfl rfl (v := ?_) ?_ ?_; rotate_left 1; (focus (intro w hSw; (try dsimp only at hSw); go_simp; (try with_reducible rfl); done)); all_goals (try simp only [Act.put, List.setIfInBounds_toArray, List.set_cons_zero, List.set_cons_succ])))
            (refine wpAnyH_ready (rs := [6]) (by kernel_rfl) (by simp) ?_; refine AllReadyH.cons rfl (fun K hK => ?_) AllReadyH.nil; go_simp; (go_at_call 86; refine (l4Checks_eq Q1.out _ (Kd.grow Kd.table HT.out (And.left (by assumption))) (SV.out.grow (And.left (by assumption))) HOV.out HEX.out).mono ?_; rintro e wX ⟨rfl, hbX⟩); refine hK.out _ _ (by exact Grow.both (by repeat (with_reducible first | exact Grow.refl _ | assumption | refine Grow.drew ?_ | refine Grow.alloc ?_ _ | refine Grow.set ?_ (by first | exact Nat.le_refl _ | (simp; done) | (simp; omega) | omega) _ | exact And.left (by assumption) | refine Grow.trans ?_ (by assumption)))) (fun hHeld => ?_); clear hK K; (try refine held_put 57 rfl ?_); (try simp only [Act.put, List.setIfInBounds_toArray, List.set_cons_zero, List.set_cons_succ]))
            (refine held_take (i := 7) 58 (v := (.bool q1)) rfl rfl (by kernel_rfl) (by kernel_rfl) (by kernel_rfl) (fun _ _ _ h => h) (by kernel_rfl) ?_ (by assumption) ?_; (focus (intro w hSw; (try dsimp only at hSw); go_simp; (simpa using hq1.out))); all_goals (try simp only [Act.put, List.setIfInBounds_toArray, List.set_cons_zero, List.set_cons_succ]))
            obtain ⟨gX, _⟩ : Grow wY1 wX ∧ Same wY1 wX := by assumption
            refine wpAnyH_done (by kernel_rfl) ?_ _
            have ownX := ownN.grow gX
            have kX := kN.grow gX
            clear ownN kN R1 c0 c1 c2 c3 c4 c5 a0 HT SR SA SD SV gN
            go_upto_if 58 with (fail)
            go_cut [7] (fun sv wx => ∃ (n c : Nat) (P : Option Addr), sv = .slice P n c ∧ n ≤ 240 * k + 4 * j + 2 ∧ OwnF Kd.flaw 123 w wx P n c ((List.range k).flatMap (flawD s db (!wait)) ++ (d.rows.take j).flatMap (flawR s db (!wait) k t' d.rows) ++ flUp q0 q1 q2 q3 k x.id 2) ∧ Kept wx P nr (.cells #[.int .i64 x.id, .slice Av Lv Cv] 48 (0, 0)))
            case first =>
              have hs4 := flUp_step q0 q1 q2 q3 (k : Int) x.id 1 q1 2 (by simp)
              cases q1 with
              | false =>
                rw [flawIf_no, List.append_nil] at hs4
                have own3 := ownX
                rw [← hs4] at own3
                clear hs4
                go_wp2
                go_meet
                exact ⟨nN, cN, PN, rfl, by omega, own3, kX⟩
              | true =>
                rw [flawIf_yes] at hs4
                have HZ := Lib.hid hs4
                clear hs4
                obtain ⟨fR, gR⟩ := free_of kX.2.2
                have lR := kX.1
                rw [hnr] at fR lR
                have R0 : wX.cell? ⟨wr.heap.size, 0, none⟩ = some (.int .i64 x.id) := fR 0
                clear fR gR
                have own3 := ownX.grow ((Grow.refl wX).alloc (.cells #[.int .i64 2, .int .i64 k, .int .i64 x.id] 123))
                have k3 := kX.grow ((Grow.refl wX).alloc (.cells #[.int .i64 2, .int .i64 k, .int .i64 x.id] 123))
                go_wp2_with (at_builtin; refine wpList_app plain_flaw ones_flaw elem_flaw rfl (.tmp 59) (.tmp 64) (by rfl) (by rfl) own3 (by rfl) (isSl_one (x := ⟨2, (k : Int), x.id⟩) (by decide) (new_block _ _) ⟨rfl, trivial⟩) (q := nN + 1) rfl (by unfold maxLen; omega) (by omega) (fun A3 c3 w3 ap3 => ?_))
                have ownZ := ap3.own
                rw [List.append_assoc, ← HZ.out] at ownZ
                go_meet
                exact ⟨nN + 1, c3, A3, rfl, by omega, ownZ, k3.app ap3⟩
            case rest =>
              obtain ⟨nN, cN, PN, rfl, hnN, ownN, kN⟩ := hcut
              obtain ⟨wY2, hY⟩ : ∃ v, v = wc := ⟨_, rfl⟩
              rw [← hY] at ownN kN ⊢
              clear hY
              have gN := ownN.grows
              obtain ⟨fR, gR⟩ := free_of kN.2.2
              have lR := kN.1
              rw [hnr] at fR lR
              have R0 := fR 0
              have R1 := fR 1
              have c0 := (gN.same _ _ hb2).trans d0
              have c1 := (gN.same _ _ hb2).trans d1
              have c2 := (gN.same _ _ hb2).trans d2
              have c3 := (gN.same _ _ hb2).trans d3
              have c4 := (gN.same _ _ hb2).trans d4
              have c5 := (gN.same _ _ hb2).trans d5
              have a0 := (gN.same _ _ hb1).trans e0
              have hb2r := Nat.lt_of_lt_of_le hb2 gN.size
              have hb1r := Nat.lt_of_lt_of_le hb1 gN.size
              have HT := Lib.hid (Kd.grow Kd.table hrdT gN)
              have SR := Lib.hid (sr.grow gN)
              have SA := Lib.hid (hs.grow gN)
              have SD := Lib.hid (hd.grow gN)
              have SV := Lib.hid (svw.grow gN)
              clear fR gR
              go_wp2_with fail
              refine wp_region_held_drew (S := (fun w' => Grow wY2 w' ∧ Same wY2 w')) (by kernel_rfl) (by exact Grow.both (by repeat (with_reducible first | exact Grow.refl _ | assumption | refine Grow.drew ?_ | refine Grow.alloc ?_ _ | refine Grow.set ?_ (by first | exact Nat.le_refl _ | (simp; done) | (simp; omega) | omega) _ | exact And.left (by assumption) | refine Grow.trans ?_ (by assumption)))) (fun hHeld => ?_)
              ((refine tk 0 66 rfl rfl (v := ?_) ?_ ?_; rotate_left 1; (focus (intro w hSw; (try dsimp only at hSw); go_simp; (try with_reducible rfl); done)); all_goals (try simp only [Act.put, List.setIfInBounds_toArray, List.set_cons_zero, List.set_cons_succ])); (refine tk 1 67 rfl rfl (v := ?_) ?_ ?_; rotate_left 1; (focus (intro w hSw; (try dsimp only at hSw); go_simp; (try with_reducible rfl); done)); all_goals (try simp only [Act.put, List.setIfInBounds_toArray, List.set_cons_zero, List.set_cons_succ])); (refine tk 2 68 rfl rfl (v := ?_) ?_ ?_; rotate_left 1; (focus (intro w hSw; (try dsimp only at hSw); go_simp; (try with_reducible rfl); done)); all_goals (try simp only [Act.put, List.setIfInBounds_toArray, List.set_cons_zero, List.set_cons_succ])); (refine tk 3 69 rfl rfl (v := ?_) ?_ ?_; rotate_left 1; (focus (intro w hSw; (try dsimp only at hSw); go_simp; (try with_reducible rfl); done)); all_goals (try simp only [Act.put, List.setIfInBounds_toArray, List.set_cons_zero, List.set_cons_succ])); (refine tk 4 70 rfl rfl (v := ?_) ?_ ?_; rotate_left 1; (focus (intro w hSw; (try dsimp only at hSw); go_simp; (try with_reducible rfl); done)); all_goals (try simp only [Act.put, List.setIfInBounds_toArray, List.set_cons_zero, List.set_cons_succ])); (refine tk 5 71 rfl rfl (v := ?_) ?_ ?_; rotate_left 1; (focus (intro w hSw; (try dsimp only at hSw); go_simp; (try with_reducible rfl); done)); all_goals (try simp only [Act.put, List.setIfInBounds_toArray, List.set_cons_zero, List.set_cons_succ])); (refine tk 6 72 rfl rfl (v := ?_) ?_ ?_; rotate_left 1; (focus (intro w hSw; (try dsimp only at hSw); go_simp; (try with_reducible rfl); done)); all_goals (try simp only [Act.put, List.setIfInBounds_toArray, List.set_cons_zero, List.set_cons_succ])); (refine tk 7 73 rfl rfl (v := ?_) ?_ ?_; rotate_left 1; (focus (intro w hSw; (try dsimp only at hSw); go_simp; (try with_reducible rfl); done)); all_goals (try simp only [Act.put, List.setIfInBounds_toArray, List.set_cons_zero, List.set_cons_succ])); (refine tk 8 74 rfl rfl (v := ?_) ?_ ?_; rotate_left 1; (focus (intro w hSw; (try dsimp only at hSw); go_simp; (try with_reducible rfl); done)); all_goals (try simp only [Act.put, List.setIfInBounds_toArray, List.set_cons_zero, List.set_cons_succ])))
              (refine wpAnyH_ready (rs := [9]) (by kernel_rfl) (by simp) ?_; refine AllReadyH.cons rfl (fun K hK => ?_) AllReadyH.nil; go_simp; (go_at_call 87; refine (l5Unique_eq Q2.out _ (Kd.grow Kd.table HT.out (And.left (by assumption))) (SR.out.grow (And.left (by assumption))) (SV.out.grow (And.left (by assumption))) HKI.out HU3.out HVL.out HFIT.out hLr60).mono ?_; rintro e wX ⟨rfl, hbX⟩); refine hK.out _ _ (by exact Grow.both (by repeat (with_reducible first | exact Grow.refl _ | assumption | refine Grow.drew ?_ | refine Grow.alloc ?_ _ | refine Grow.set ?_ (by first | exact Nat.le_refl _ | (simp; done) | (simp; omega) | omega) _ | exact And.left (by assumption) | refine Grow.trans ?_ (by assumption)))) (fun hHeld => ?_); clear hK K; (try refine held_put 75 rfl ?_); (try simp only [Act.put, List.setIfInBounds_toArray, List.set_cons_zero, List.set_cons_succ]))
              (refine held_take (i := 10) 76 (v := (.bool q2)) rfl rfl (by kernel_rfl) (by kernel_rfl) (by kernel_rfl) (fun _ _ _ h => h) (by kernel_rfl) ?_ (by assumption) ?_; (focus (intro w hSw; (try dsimp only at hSw); go_simp; (simpa using hq2.out))); all_goals (try simp only [Act.put, List.setIfInBounds_toArray, List.set_cons_zero, List.set_cons_succ]))
              obtain ⟨gX, _⟩ : Grow wY2 wX ∧ Same wY2 wX := by assumption
              refine wpAnyH_done (by kernel_rfl) ?_ _
              have ownX := ownN.grow gX
              have kX := kN.grow gX
              clear ownN kN R1 c0 c1 c2 c3 c4 c5 a0 HT SR SA SD SV gN
              go_upto_if 76 with (fail)
              go_cut [7] (fun sv wx => ∃ (n c : Nat) (P : Option Addr), sv = .slice P n c ∧ n ≤ 240 * k + 4 * j + 3 ∧ OwnF Kd.flaw 123 w wx P n c ((List.range k).flatMap (flawD s db (!wait)) ++ (d.rows.take j).flatMap (flawR s db (!wait) k t' d.rows) ++ flUp q0 q1 q2 q3 k x.id 3) ∧ Kept wx P nr (.cells #[.int .i64 x.id, .slice Av Lv Cv] 48 (0, 0)))
              case first =>
                have hs4 := flUp_step q0 q1 q2 q3 (k : Int) x.id 2 q2 3 (by simp)
                cases q2 with
                | false =>
                  rw [flawIf_no, List.append_nil] at hs4
                  have own3 := ownX
                  rw [← hs4] at own3
                  clear hs4
                  go_wp2
                  go_meet
                  exact ⟨nN, cN, PN, rfl, by omega, own3, kX⟩
                | true =>
                  rw [flawIf_yes] at hs4
                  have HZ := Lib.hid hs4
                  clear hs4
                  obtain ⟨fR, gR⟩ := free_of kX.2.2
                  have lR := kX.1
                  rw [hnr] at fR lR
                  have R0 : wX.cell? ⟨wr.heap.size, 0, none⟩ = some (.int .i64 x.id) := fR 0
                  clear fR gR
                  have own3 := ownX.grow ((Grow.refl wX).alloc (.cells #[.int .i64 3, .int .i64 k, .int .i64 x.id] 123))
                  have k3 := kX.grow ((Grow.refl wX).alloc (.cells #[.int .i64 3, .int .i64 k, .int .i64 x.id] 123))
                  go_wp2_with (at_builtin; refine wpList_app plain_flaw ones_flaw elem_flaw rfl (.tmp 77) (.tmp 82) (by rfl) (by rfl) own3 (by rfl) (isSl_one (x := ⟨3, (k : Int), x.id⟩) (by decide) (new_block _ _) ⟨rfl, trivial⟩) (q := nN + 1) rfl (by unfold maxLen; omega) (by omega) (fun A3 c3 w3 ap3 => ?_))
                  have ownZ := ap3.own
                  rw [List.append_assoc, ← HZ.out] at ownZ
                  go_meet
                  exact ⟨nN + 1, c3, A3, rfl, by omega, ownZ, k3.app ap3⟩
              case rest =>
                obtain ⟨nN, cN, PN, rfl, hnN, ownN, kN⟩ := hcut
                obtain ⟨wY3, hY⟩ : ∃ v, v = wc := ⟨_, rfl⟩
                rw [← hY] at ownN kN ⊢
                clear hY
                have gN := ownN.grows
                obtain ⟨fR, gR⟩ := free_of kN.2.2
                have lR := kN.1
                rw [hnr] at fR lR
                have R0 := fR 0
                have R1 := fR 1
                have c0 := (gN.same _ _ hb2).trans d0
                have c1 := (gN.same _ _ hb2).trans d1
                have c2 := (gN.same _ _ hb2).trans d2
                have c3 := (gN.same _ _ hb2).trans d3
                have c4 := (gN.same _ _ hb2).trans d4
                have c5 := (gN.same _ _ hb2).trans d5
                have a0 := (gN.same _ _ hb1).trans e0
                have hb2r := Nat.lt_of_lt_of_le hb2 gN.size
                have hb1r := Nat.lt_of_lt_of_le hb1 gN.size
                have HT := Lib.hid (Kd.grow Kd.table hrdT gN)
                have SR := Lib.hid (sr.grow gN)
                have SA := Lib.hid (hs.grow gN)
                have SD := Lib.hid (hd.grow gN)
                have SV := Lib.hid (svw.grow gN)
                clear fR gR
                go_wp2_with fail
                refine (l5Refers_eq Q3.out _ SA.out SD.out SV.out hxt.out HFV.out).mono ?_
                rintro e wX ⟨rfl, gX⟩
                have ownX := ownN.grow gX
                have kX := kN.grow gX
                clear ownN kN R0 R1 c0 c1 c2 c3 c4 c5 a0 HT SR SA SD SV gN
                have hs4 := flUp_step q0 q1 q2 q3 (k : Int) x.id 3 q3 4 (by simp)
                cases q3 with
                | false =>
                  rw [flawIf_no, List.append_nil] at hs4
                  have own3 := ownX
                  rw [← hs4] at own3
                  clear hs4
                  go_wp2
                  go_roundw
                  case rel => exact ⟨j + 1, nN, cN, PN, by omega, by go_num, rfl, by omega, by rw [hn.out, ← List.append_assoc]; exact own3⟩
                  case measure => simp [intOf]; omega
                | true =>
                  rw [flawIf_yes] at hs4
                  have HZ := Lib.hid hs4
                  clear hs4
                  obtain ⟨fR, gR⟩ := free_of kX.2.2
                  have lR := kX.1
                  rw [hnr] at fR lR
                  have R0 : wX.cell? ⟨wr.heap.size, 0, none⟩ = some (.int .i64 x.id) := fR 0
                  clear fR gR
                  have own3 := ownX.grow ((Grow.refl wX).alloc (.cells #[.int .i64 4, .int .i64 k, .int .i64 x.id] 123))
                  have k3 := kX.grow ((Grow.refl wX).alloc (.cells #[.int .i64 4, .int .i64 k, .int .i64 x.id] 123))
                  go_wp2_with (at_builtin; refine wpList_app plain_flaw ones_flaw elem_flaw rfl (.tmp 92) (.tmp 97) (by rfl) (by rfl) own3 (by rfl) (isSl_one (x := ⟨4, (k : Int), x.id⟩) (by decide) (new_block _ _) ⟨rfl, trivial⟩) (q := nN + 1) rfl (by unfold maxLen; omega) (by omega) (fun A3 c3 w3 ap3 => ?_))
                  have ownZ := ap3.own
                  rw [List.append_assoc, ← HZ.out] at ownZ
                  go_roundw
                  case rel => exact ⟨j + 1, nN + 1, c3, A3, by omega, by go_num, rfl, by omega, by rw [hn.out, ← List.append_assoc]; exact ownZ⟩
                  case measure => simp [intOf]; omega
        · obtain rfl : j = Lr := by omega
          have own2 := own1
          rw [List.take_of_length_le (by rw [HRL.out]; exact Nat.le_refl _), ← hFD.out, ← range_flat] at own2
          go_wp2
          go_roundw
          case rel => exact ⟨k + 1, nN, cN, PN, by omega, by go_num, rfl, by omega, own2⟩
          case measure => simp [intOf]; omega
    · obtain rfl : k = lb := by omega
      have own2 := own0
      have hfl : (List.range k).flatMap (flawD s db (!wait)) = flawsV s db (!wait) := by rw [flawsV, HDL.out]
      rw [hfl] at own2
      go_wp2
      go_ret
      exact ⟨_, _, _, rfl, own2.isSl, hG0⟩
end Go.Proofs.YtjeilgogjoidjaaGreat
