import Derived.Test.YtboichhelfahlaaGreatLawBad
import Derived.Test.YtboichhelfahlaaGreatFlaws
/-! The law FnFlaws, walked. -/
namespace Go.Proofs.YtboichhelfahlaaGreat
open Go.RowKit
set_option linter.unusedVariables false
set_option linter.unusedSimpArgs false
def FlawsRes7 (q : Bool) (fl : List Flaw) (w : World) (e : Ending) (w' : World) : Prop := ∃ A len cap, e = .returned (.tuple #[.slice A len cap, .bool q]) ∧ IsSl Kd.flaw w' (Fresh w.heap.size w') A len cap fl ∧ Grow w w'
theorem sFlaws_f {q : Bool} {fl : List Flaw} {A B : Option Addr} {la ca lb cb : Nat} {s : List Table} {db : List Data} (hq : dbOkB s db = q) (hf : flawsOf s db = fl) (w : World) (hs : IsSl Kd.table w (· < w.heap.size) A la ca s) (hd : IsSl Kd.data w (· < w.heap.size) B lb cb db) :
    Calls Tryz.prog 13 #[.slice A la ca, .slice B lb cb] w (FlawsRes7 q fl w) := by subst hq; subst hf; exact sFlaws_any w hs hd
theorem iFlaws_f {q : Bool} {fl : List Flaw} {A B : Option Addr} {la ca lb cb : Nat} {s : List Table} {db : List Data} (hq : dbOkB s db = q) (hf : flawsOf s db = fl) (w : World) (hs : IsSl Kd.table w (· < w.heap.size) A la ca s) (hd : IsSl Kd.data w (· < w.heap.size) B lb cb db) :
    Calls Tryz.prog 12 #[.slice A la ca, .slice B lb cb] w (FlawsRes7 q fl w) := by subst hq; subst hf; exact iFlaws_any w hs hd
def KeyF (q : Bool) (ks : List Val) (w : World) (e : Ending) (w' : World) : Prop := ∃ A len cap, e = .returned (.tuple #[.slice A len cap, .bool q]) ∧ IsSl Kd.val w' (Fresh w.heap.size w') A len cap ks ∧ Grow w w'
theorem iKeyOf_f {q : Bool} {ks : List Val} {A B : Option Addr} {la ca lb cb : Nat} {cols : List Int} {vals : List Val} (hq : kKn cols vals = q) (hk : kOf cols vals = ks) (w : World) (h : IsSl Kd.int w (· < w.heap.size) A la ca cols) (hv : IsSl Kd.val w (· < w.heap.size) B lb cb vals) (hl : la ≤ 1048576) :
    Calls Tryz.prog 16 #[.slice A la ca, .slice B lb cb] w (KeyF q ks w) := by subst hq; subst hk; exact iKeyOf_any w h hv hl
theorem iFindRows_f {fs : List Int} {A B C D : Option Addr} {la ca lb cb lc cc ld cd : Nat} {s : List Table} {db : List Data} (table : Int) {cols : List Int} {key : List Val} (hf : findV s db table cols key = fs) (w : World) (hs : IsSl Kd.table w (· < w.heap.size) A la ca s) (hd : IsSl Kd.data w (· < w.heap.size) B lb cb db)
    (h : IsSl Kd.int w (· < w.heap.size) C lc cc cols) (hk : IsSl Kd.val w (· < w.heap.size) D ld cd key) : Calls Tryz.prog 17 #[.slice A la ca, .slice B lb cb, .int .i64 table, .slice C lc cc, .slice D ld cd] w (IntsRes fs w) := by
  subst hf; exact iFindRows_any table w hs hd h hk
theorem iTruth_f {a : Int} {A B : Option Addr} {la ca lb cb : Nat} {e : List Tok} {row : List Val} (ha : trL e row = a) (w : World) (he : IsSl Kd.tok w (· < w.heap.size) A la ca e) (hr : IsSl Kd.val w (· < w.heap.size) B lb cb row) :
    Calls Tryz.prog 15 #[.slice A la ca, .slice B lb cb] w (Ret w (.int .i64 a)) := by subst ha; exact iTruth_any w he hr
theorem iTableAt_f {r : Int} {A : Option Addr} {len cap : Nat} {xs : List Table} {name : ByteArray} (hr : tableAtV xs name = r) (w : World) (h : IsSl Kd.table w (· < w.heap.size) A len cap xs) :
    Calls Tryz.prog 18 #[.slice A len cap, .string name] w (Ret w (.int .i64 r)) := by subst hr; exact iTableAt_any _ w h
theorem iSound_f {r : Bool} {A B : Option Addr} {la ca lb cb : Nat} {s : List Table} {db : List Data} (hr : soundB s db true = r) (w : World) (hs : IsSl Kd.table w (· < w.heap.size) A la ca s) (hd : IsSl Kd.data w (· < w.heap.size) B lb cb db) :
    Calls Tryz.prog 19 #[.slice A la ca, .slice B lb cb] w (Ret w (.bool r)) := by subst hr; exact iSound_any w hs hd
theorem ones_unique : Ones Kd.unique := fun w S cs a h u hu => by
  obtain ⟨A, l, c, rfl, _⟩ := h
  simp at hu; subst hu; rfl
theorem info_uniqueF : (Tryz.prog.info? 54).map (fun i => (i.zero, i.size, i.bytes)) = some (some (.agg #[.slice none 0 0]), 1, 24) := by kernel_rfl
theorem elem_unique : ElemOk Tryz.prog 35 54 1 24 := elemOk_of Tryz.underlying35 info_uniqueF rfl (by decide)
theorem any_take' {α : Type} (p : α → Bool) {xs : List α} {j : Nat} {x : α} (hx : xs[j]? = some x) : (xs.take (j + 1)).any p = ((xs.take j).any p || p x) := by
  obtain ⟨hj, rfl⟩ := List.getElem?_eq_some_iff.mp hx
  rw [List.take_succ_eq_append_getElem hj, List.any_append]
  simp
theorem any_range' (p : Nat → Bool) (j : Nat) : (List.range (j + 1)).any p = ((List.range j).any p || p j) := by
  rw [List.range_succ, List.any_append]; simp
theorem AppedG.growLit {α : Type} {k : Kd α} {E : TypeId} {B : Nat} {X w w' : World} {q c' : Nat} {zs : List α} {A' : Option Addr} (h : AppedG k E B w (some X.heap.size) q zs A' c' w') (hX : Grow X w) : Grow X w' :=
  ⟨h.os.trans (Below.os hX), h.tape.trans (Below.tape hX), h.output.trans (Below.output hX), Nat.le_trans hX.size h.size, fun b hb => (h.block b (Nat.lt_of_lt_of_le hb hX.size) (fun e => by injection e with e; omega)).trans (hX.block hb)⟩
theorem drewn {w V : World} {c : Array Value} {t : TypeId} (hV : (w.alloc (.cells c t)).drew = V) : Grow w V ∧ w.heap.size < V.heap.size ∧ V.heap[w.heap.size]? = some (.cells c t (0, 0)) := by
  subst hV
  exact ⟨((Grow.refl _).alloc _).drew, by show w.heap.size < (w.heap.push _).size; simp, new_block _ _⟩
theorem null_next {t : Table} {vals : List Val} {j : Nat} {c : Col} {v : Val} (hc : t.cols[j]? = some c) (hv : vals[j]? = some v) (k : Bool) : (k && (List.range (j + 1)).any (nullAt t vals)) = ((k && (List.range j).any (nullAt t vals)) || (k && (c.notNull && v.kind == 0))) := by
  rw [any_range', nullAt, hc, hv]
  cases k <;> simp
theorem keys_any (s : List Table) (db : List Data) (i : Int) (vals : List Val) (t : Table) : ((⟨t.key⟩ : Unique) :: t.uniques).any (fun u => dupB s db i vals u.cols) = (keysOf t).any (dupB s db i vals) := by
  simp [keysOf, List.any_map]
  rfl
set_option maxRecDepth 20000 in
set_option maxHeartbeats 16000000 in
theorem law_FnFlaws (A : Option Addr) (len cap : Nat) (xs : List Int) {W : World} (h : IsSl Kd.byte W (· < W.heap.size) A len cap xs) (w : World) (hw : w = W) :
    Calls Tryz.prog 3 #[.slice A len cap] w (Ret w (.bool true)) := by
  subst hw
  have hl := Nat.le_trans h.2.1 h.2.2.1
  by_cases hbig : 1048576 < len
  · go_enter Tryz.func3, Tryz.ntmps3
    go_wp2_with fail
    refine (big_yes _ hl hbig).mono ?_
    rintro e w1 ⟨rfl, rfl⟩
    go_wp2
    go_ret
    exact ⟨rfl, Grow.refl _⟩
  go_enter Tryz.func3, Tryz.ntmps3
  go_wp2_with fail
  refine (big_no _ hl hbig).mono ?_
  rintro e w1 ⟨rfl, rfl⟩
  go_wp2_with fail
  refine (drawFlaws_any _ h).mono ?_
  rintro e w1 ⟨A1, B1, n, c, m, d, s, db, rfl, hs, hd, hn1, hn3, hm3, hb, hdb, g1⟩
  clear h
  obtain ⟨q, hq⟩ : ∃ q, dbOkB s db = q := ⟨_, rfl⟩
  obtain ⟨fl, hf⟩ : ∃ fl, flawsOf s db = fl := ⟨_, rfl⟩
  have HL := Lib.hid (show fl.length ≤ 1200 by rw [← hf]; exact flawsOf_len s db)
  have HQ := Lib.hid hq
  have HF := Lib.hid hf
  clear hq hf
  go_wp2_with fail
  refine (iFlaws_f HQ.out HF.out _ hs.fresh hd.fresh).mono ?_
  rintro e w2 ⟨A2, l2, c2, rfl, t2, g2⟩
  have G2 := g1.trans g2
  go_wp2_with fail
  refine (sFlaws_f HQ.out HF.out _ (hs.fresh.grow g2) (hd.fresh.grow g2)).mono ?_
  rintro e w3 ⟨A3, l3, c3, rfl, t3, g3⟩
  have G3 := G2.trans g3
  obtain rfl : l2 = l3 := by rw [← t2.1, ← t3.1]
  cases q with
  | false =>
    go_wp2
    go_ret
    exact ⟨rfl, G3⟩
  | true =>
    have hsF : IsSl Kd.table w3 (Fresh w.heap.size w3) A1 n c s := hs.mono (fun b hb => hb.grow (g2.trans g3)) (fun b hb => (g2.trans g3).block hb.2.1)
    have hs3 := hs.fresh.grow (g2.trans g3)
    have hd3 := hd.fresh.grow (g2.trans g3)
    have tf2 := t2.fresh.grow g3
    have tf3 := t3.fresh
    have hl2 : l2 ≤ 1200 := by have := HL.out; rw [t2.1] at this; exact this
    have hfl := Lib.hid (t2.1)
    have HFV := Lib.hid ((flawsOf_ok HQ.out).symm.trans HF.out)
    have HSB : Hid (soundB s db true = ((l2 : Int) == 0)) := Lib.hid (by rw [soundB, HQ.out, Bool.true_and, HFV.out]; exact (empty_len hfl.out).symm)
    have hmn : m = n := by
      have := HQ.out
      simp only [dbOkB, Bool.and_eq_true] at this
      have := db_len this.2
      rw [hs.1, hd.1] at this
      exact this
    subst hmn
    have hsl := Lib.hid hs.1
    have hdl := Lib.hid hd.1
    clear hs hd t2 t3
    go_wp2
    go_loopw [9] (fun iv wr => ∃ i : Nat, i ≤ l2 ∧ iv = .int .i64 i ∧ Grow w3 wr) (fun iv _ => l2 - (intOf iv).toNat)
    case atStart => exact ⟨0, Nat.zero_le _, rfl, Grow.refl _⟩
    case round =>
      obtain ⟨i, hi, rfl, hg⟩ := hrel
      by_cases hlt : i < l2
      · have i0 : (0 : Int) ≤ (i : Int) := Int.natCast_nonneg i
        have i1 : (i : Int) < (l2 : Int) := Int.ofNat_lt.mpr hlt
        obtain ⟨bF, oF, x, rfl, hxx, _, hbF, f0, f1, f2, _⟩ := flaw_at (tf2.grow hg) hlt
        obtain ⟨bG, oG, x', rfl, hxx', _, hbG, g0, g1', g2', _⟩ := flaw_at (tf3.grow hg) hlt
        obtain rfl : x' = x := Option.some.inj (hxx'.out.symm.trans hxx.out)
        have hmem := List.mem_of_getElem? hxx.out
        rw [← HFV.out] at hmem
        obtain ⟨p, dd, t, r, hdp, htp, hrm, hxr⟩ := mem_flawsV.mp hmem
        have hxid : x'.table = (p : Int) ∧ x'.id = r.id := by
          rcases mem_flawR.mp hxr with h1 | h1 | h1 | h1 <;> (rw [h1.2]; exact ⟨rfl, rfl⟩)
        have hbad := bad_of HQ.out hdp htp hrm hxr
        obtain ⟨kd, tb, idd⟩ := x'
        dsimp only at hxid hbad f0 f1 f2 g0 g1' g2'
        obtain ⟨rfl, rfl⟩ := hxid
        clear hmem hxr hxx hxx'
        have hpm : p < m := by rw [← hsl.out]; exact (List.getElem?_eq_some_iff.mp htp).1
        obtain ⟨hT, hR⟩ := tab_in HQ.out hdp htp
        have hat := Lib.hid (atV_of hR hrm)
        have hfit := Lib.hid (row_fit hR hrm)
        have hvl := Lib.hid (fit_len (row_fit hR hrm))
        have HT := Lib.hid hT
        have HDP := Lib.hid hdp
        have HTP := Lib.hid htp
        have HBAD := Lib.hid hbad
        clear hdp htp hrm hR hbad hT
        have p0 : (0 : Int) ≤ (p : Int) := Int.natCast_nonneg p
        have p1 : (p : Int) < (m : Int) := Int.ofNat_lt.mpr hpm
        go_wp2_with fail
        generalize hV1 : World.alloc wr _ = V1
        obtain ⟨gV1, sV1, bV1⟩ := boxedB hV1
        clear hV1
        have v0 := (free_of bV1).1 0
        have v1 := (free_of bV1).1 1
        have v2 := (free_of bV1).1 2
        simp only [List.getElem?_toArray, List.getElem?_cons_succ, List.getElem?_cons_zero] at v0 v1 v2
        have G0 := (gV1.same _ _ hbG).trans g0
        have G1 := (gV1.same _ _ hbG).trans g1'
        have G2' := (gV1.same _ _ hbG).trans g2'
        have hbG1 := Nat.lt_of_lt_of_le hbG gV1.size
        replace bV1 := Lib.hid bV1
        clear f0 f1 f2 g0 g1' g2'
        refine wp_region_held_drew (S := (fun w' => Grow V1 w' ∧ Same V1 w')) (by kernel_rfl) (by exact Grow.both (by repeat (with_reducible first | exact Grow.refl _ | assumption | refine Grow.drew ?_ | refine Grow.alloc ?_ _ | refine Grow.set ?_ (by first | exact Nat.le_refl _ | (simp; done) | (simp; omega) | omega) _ | exact And.left (by assumption) | refine Grow.trans ?_ (by assumption)))) (fun hHeld => ?_)
        ((refine tk 0 78 rfl rfl (v := ?_) ?_ ?_; rotate_left 1; (focus (intro w hSw; (try dsimp only at hSw); go_simp; (try with_reducible rfl); done)); all_goals (try simp only [Act.put, List.setIfInBounds_toArray, List.set_cons_zero, List.set_cons_succ])); (refine tk 1 79 rfl rfl (v := ?_) ?_ ?_; rotate_left 1; (focus (intro w hSw; (try dsimp only at hSw); go_simp; (try with_reducible rfl); done)); all_goals (try simp only [Act.put, List.setIfInBounds_toArray, List.set_cons_zero, List.set_cons_succ])); (refine tk 2 80 rfl rfl (v := ?_) ?_ ?_; rotate_left 1; (focus (intro w hSw; (try dsimp only at hSw); go_simp; (try with_reducible rfl); done)); all_goals (try simp only [Act.put, List.setIfInBounds_toArray, List.set_cons_zero, List.set_cons_succ])); (refine tk 3 81 rfl rfl (v := ?_) ?_ ?_; rotate_left 1; (focus (intro w hSw; (try dsimp only at hSw); go_simp; (try with_reducible rfl); done)); all_goals (try simp only [Act.put, List.setIfInBounds_toArray, List.set_cons_zero, List.set_cons_succ])); (refine tk 4 82 rfl rfl (v := ?_) ?_ ?_; rotate_left 1; (focus (intro w hSw; (try dsimp only at hSw); go_simp; (try with_reducible rfl); done)); all_goals (try simp only [Act.put, List.setIfInBounds_toArray, List.set_cons_zero, List.set_cons_succ])); (refine tk 5 83 rfl rfl (v := ?_) ?_ ?_; rotate_left 1; (focus (intro w hSw; (try dsimp only at hSw); go_simp; (try with_reducible rfl); done)); all_goals (try simp only [Act.put, List.setIfInBounds_toArray, List.set_cons_zero, List.set_cons_succ])))
        refine wpAnyH_done (by kernel_rfl) ?_ _
        clear G0 G1 G2'
        obtain ⟨bT, oT, t', T0, q0, d0, T1, q1, d1, T2, q2, d2, T3, q3, d3, T4, q4, d4, rfl, hxt, _, hbT, hnm, e0, e1, e2, e3, e4, e5, sc, sk, su, sh, sf, hrd⟩ := table_at (hsF.mono (fun b hb => hb.grow hg) (fun b hb => hg.block hb.2.1)) hpm
        obtain rfl : t = t' := Option.some.inj (HTP.out.symm.trans hxt.out)
        obtain ⟨bD, oD, dd', Ar, Lr, Cr, rfl, hxd, _, hbD, cD, sr, _⟩ := data_at (hd3.grow hg) hpm
        obtain rfl : dd = dd' := Option.some.inj (HDP.out.symm.trans hxd.out)
        have E0 := (gV1.same _ _ hbT).trans e0
        have E1 := (gV1.same _ _ hbT).trans e1
        have E2 := (gV1.same _ _ hbT).trans e2
        have E3 := (gV1.same _ _ hbT).trans e3
        have E4 := (gV1.same _ _ hbT).trans e4
        have E5 := (gV1.same _ _ hbT).trans e5
        have hbT1 := Nat.lt_of_lt_of_le hbT gV1.size
        clear e0 e1 e2 e3 e4 e5 hxt hxd
        go_wp2_with fail
        generalize hV2 : World.drew (World.alloc V1 _) = V2
        obtain ⟨gV2, sV2, bV2⟩ := drewn hV2
        clear hV2
        replace bV2 := Lib.hid bV2
        have b1V2 := (gV2.block sV1).trans bV1.out
        have v0 := (free_of b1V2).1 0
        have v1 := (free_of b1V2).1 1
        have v2 := (free_of b1V2).1 2
        simp only [List.getElem?_toArray, List.getElem?_cons_succ, List.getElem?_cons_zero] at v0 v1 v2
        have sV12 := Nat.lt_of_lt_of_le sV1 gV2.size
        have b1V2 := Lib.hid b1V2
        have gV12 := gV1.trans gV2
        have D0 := (gV12.same _ _ hbD).trans cD
        have hbD2 := Nat.lt_of_lt_of_le hbD gV12.size
        have SR := Lib.hid (sr.grow gV12)
        clear E0 E1 E2 E3 E4 E5 cD sr
        refine wp_region_held_drew (S := (fun w' => Grow V2 w' ∧ Same V2 w')) (by kernel_rfl) (by exact Grow.both (by repeat (with_reducible first | exact Grow.refl _ | assumption | refine Grow.drew ?_ | refine Grow.alloc ?_ _ | refine Grow.set ?_ (by first | exact Nat.le_refl _ | (simp; done) | (simp; omega) | omega) _ | exact And.left (by assumption) | refine Grow.trans ?_ (by assumption)))) (fun hHeld => ?_)
        ((refine tk 0 89 rfl rfl (v := ?_) ?_ ?_; rotate_left 1; (focus (intro w hSw; (try dsimp only at hSw); go_simp; (try with_reducible rfl); done)); all_goals (try simp only [Act.put, List.setIfInBounds_toArray, List.set_cons_zero, List.set_cons_succ])); (refine tk 1 90 rfl rfl (v := ?_) ?_ ?_; rotate_left 1; (focus (intro w hSw; (try dsimp only at hSw); go_simp; (try with_reducible rfl); done)); all_goals (try simp only [Act.put, List.setIfInBounds_toArray, List.set_cons_zero, List.set_cons_succ])); (refine tk 2 91 rfl rfl (v := ?_) ?_ ?_; rotate_left 1; (focus (intro w hSw; (try dsimp only at hSw); go_simp; (try with_reducible rfl); done)); all_goals (try simp only [Act.put, List.setIfInBounds_toArray, List.set_cons_zero, List.set_cons_succ])); (refine tk 3 92 rfl rfl (v := ?_) ?_ ?_; rotate_left 1; (focus (intro w hSw; (try dsimp only at hSw); go_simp; (try with_reducible rfl); done)); all_goals (try simp only [Act.put, List.setIfInBounds_toArray, List.set_cons_zero, List.set_cons_succ])); (refine tk 4 93 rfl rfl (v := ?_) ?_ ?_; rotate_left 1; (focus (intro w hSw; (try dsimp only at hSw); go_simp; (try with_reducible rfl); done)); all_goals (try simp only [Act.put, List.setIfInBounds_toArray, List.set_cons_zero, List.set_cons_succ])); (refine tk 5 94 rfl rfl (v := ?_) ?_ ?_; rotate_left 1; (focus (intro w hSw; (try dsimp only at hSw); go_simp; (try with_reducible rfl); done)); all_goals (try simp only [Act.put, List.setIfInBounds_toArray, List.set_cons_zero, List.set_cons_succ])); (refine tk 6 95 rfl rfl (v := ?_) ?_ ?_; rotate_left 1; (focus (intro w hSw; (try dsimp only at hSw); go_simp; (try with_reducible rfl); done)); all_goals (try simp only [Act.put, List.setIfInBounds_toArray, List.set_cons_zero, List.set_cons_succ])))
        (refine wpAnyH_ready (rs := [7]) (by kernel_rfl) (by simp) ?_; refine AllReadyH.cons rfl (fun K hK => ?_) AllReadyH.nil; go_simp; (go_at_call 14; refine (at_any r.id hat.out _ (SR.out.grow (And.left (by assumption)))).mono ?_; rintro e V4 ⟨AV, nV, cV, rfl, hb', sv⟩); refine hK.out _ _ (by exact Grow.both (by repeat (with_reducible first | exact Grow.refl _ | assumption | refine Grow.drew ?_ | refine Grow.alloc ?_ _ | refine Grow.set ?_ (by first | exact Nat.le_refl _ | (simp; done) | (simp; omega) | omega) _ | exact And.left (by assumption) | refine Grow.trans ?_ (by assumption)))) (fun hHeld => ?_); clear hK K; (try refine held_put 96 rfl ?_); (try simp only [Act.put, List.setIfInBounds_toArray, List.set_cons_zero, List.set_cons_succ]))
        ((refine tk 8 12 rfl rfl (v := ?_) ?_ ?_; rotate_left 1; (focus (intro w hSw; (try dsimp only at hSw); go_simp; (try with_reducible rfl); done)); all_goals (try simp only [Act.put, List.setIfInBounds_toArray, List.set_cons_zero, List.set_cons_succ])))
        obtain ⟨gV4, _⟩ : Grow V2 V4 ∧ Same V2 V4 := by assumption
        refine wpAnyH_done (by kernel_rfl) ?_ _
        have SV := Lib.hid (sv.grow hb')
        clear sv D0 v0 v1 v2
        have gX := gV12.trans gV4
        have HBF := Lib.hid ((gV4.block sV12).trans b1V2.out)
        have HBT := Lib.hid ((gV4.block sV2).trans bV2.out)
        have sF4 := Nat.lt_of_lt_of_le sV12 gV4.size
        have sT4 := Nat.lt_of_lt_of_le sV2 gV4.size
        obtain ⟨zf, hzf⟩ : ∃ z, wr.heap.size = z := ⟨_, rfl⟩
        obtain ⟨zt, hzt⟩ : ∃ z, V1.heap.size = z := ⟨_, rfl⟩
        have SC := Lib.hid (sc.fresh.grow gX)
        have SK := Lib.hid (sk.mono (fun b hb => hb.grow gX) (fun b hb => gX.block hb.2.1))
        have SU := Lib.hid (su.mono (fun b hb => hb.grow gX) (fun b hb => gX.block hb.2.1))
        have SH := Lib.hid (sh.fresh.grow gX)
        have SF := Lib.hid (sf.fresh.grow gX)
        have hS4 := Lib.hid (hs3.grow (hg.trans gX))
        have hD4 := Lib.hid (hd3.grow (hg.trans gX))
        have G4 := Lib.hid (hg.trans gX)
        have hq0 : nV = q0 := by rw [← SV.out.1, hvl.out, SC.out.1]
        subst hq0
        have hq8 : nV ≤ 8 := by rw [← SC.out.1]; exact (tableOk_cols HT.out).2
        have hq233 : q2 ≤ 3 ∧ q3 ≤ 3 ∧ q4 ≤ 3 := by
          have := HT.out
          simp only [tableOkB, Bool.and_eq_true, decide_eq_true_eq] at this
          rw [← SU.out.1, ← SH.out.1, ← SF.out.1]; exact ⟨this.1.1.1.1.1.1.2, this.1.1.1.1.1.2, this.1.1.1.1.2⟩
        obtain ⟨hq23, hq33, hq43⟩ := hq233
        rw [hzf] at HBF sF4 ⊢
        rw [hzt] at HBT sT4 ⊢
        clear sc sk su sh sf hrd hzf hzt sV1 sV2 sV12
        obtain ⟨k1, hk1⟩ : ∃ b, (kd == 1) = b := ⟨_, rfl⟩
        go_wp2
        go_loopw [13, 14] (fun bv jv w5 => ∃ j : Nat, j ≤ nV ∧ jv = .int .i64 j ∧ bv = .bool (k1 && (List.range j).any (nullAt t r.vals)) ∧ Grow V4 w5) (fun _ jv _ => nV - (intOf jv).toNat)
        case atStart => exact ⟨0, Nat.zero_le _, rfl, by simp, Grow.refl _⟩
        case round =>
          obtain ⟨j, hj, rfl, rfl, hg5⟩ := hrel
          have x1 := (hg5.same _ 1 sT4).trans ((free_of HBT.out).1 1)
          have x0 := (hg5.same _ 0 sF4).trans ((free_of HBF.out).1 0)
          simp only [List.getElem?_toArray, List.getElem?_cons_succ, List.getElem?_cons_zero] at x1 x0
          have sF5 := Nat.lt_of_lt_of_le sF4 hg5.size
          have sT5 := Nat.lt_of_lt_of_le sT4 hg5.size
          by_cases hltj : j < nV
          · have j0 : (0 : Int) ≤ (j : Int) := Int.natCast_nonneg j
            have j1 : (j : Int) < (nV : Int) := Int.ofNat_lt.mpr hltj
            obtain ⟨bC, oC, cc, rfl, hxc, _, hbC, _, _, _, _, n2, _⟩ := col_at (SC.out.grow hg5) hltj
            obtain ⟨bV, oV, vv, rfl, hxv, _, hbV, _, y0, _⟩ := val_at (SV.out.grow hg5) hltj
            have HST := Lib.hid (null_next hxc.out hxv.out k1)
            obtain ⟨b, hb⟩ : ∃ b, (k1 && (List.range j).any (nullAt t r.vals)) = b := ⟨_, rfl⟩
            obtain ⟨nn, hnn⟩ : ∃ b, cc.notNull = b := ⟨_, rfl⟩
            rw [hb, hnn] at HST
            rw [hnn] at n2
            rw [hb]
            clear hxc hxv hb hnn
            cases b with
            | true =>
              go_wp2
              go_roundw
              case rel => exact ⟨j + 1, by omega, by go_num, by rw [HST.out]; rfl, hg5⟩
              case measure => simp [intOf]; omega
            | false =>
              cases k1 with
              | false =>
                go_wp2
                go_roundw
                case rel => exact ⟨j + 1, by omega, by go_num, by rw [HST.out]; rfl, hg5⟩
                case measure => simp [intOf]; omega
              | true =>
                cases nn with
                | false =>
                  go_wp2
                  go_roundw
                  case rel => exact ⟨j + 1, by omega, by go_num, by rw [HST.out]; rfl, hg5⟩
                  case measure => simp [intOf]; omega
                | true =>
                  go_wp2
                  go_roundw
                  case rel => exact ⟨j + 1, by omega, by go_num, by rw [HST.out]; simp, hg5⟩
                  case measure => simp [intOf]; omega
          · as_aux_lemma =>
              obtain rfl : j = nV := by omega
              obtain ⟨b1, hb1⟩ : ∃ b, (k1 && (List.range j).any (nullAt t r.vals)) = b := ⟨_, rfl⟩
              have HB1 : Hid ((k1 && (List.range t.cols.length).any (nullAt t r.vals)) = b1) := Lib.hid (by rw [SC.out.1]; exact hb1)
              obtain ⟨V5, hV5⟩ : ∃ V, V = wr := ⟨_, rfl⟩
              obtain ⟨k2, hk2⟩ : ∃ b, (kd == 2) = b := ⟨_, rfl⟩
              rw [hb1]
              rw [← hV5] at hg5 sF5 sT5 x1 ⊢
              clear hV5 hb1 x0
              have HK1 := Lib.hid hk1
              clear hk1
              have u0 := ((hg5.same _ 0 sF4).trans ((free_of HBF.out).1 0))
              have u4 := ((hg5.same _ 4 sT4).trans ((free_of HBT.out).1 4))
              simp only [List.getElem?_toArray, List.getElem?_cons_succ, List.getElem?_cons_zero] at u0 u4
              go_wp2
              go_loopw [13, 15] (fun bv jv w5 => ∃ j : Nat, j ≤ q3 ∧ jv = .int .i64 j ∧ bv = .bool (b1 || (k2 && (t.checks.take j).any (chkV r.vals))) ∧ Grow V5 w5) (fun _ jv _ => q3 - (intOf jv).toNat)
              case atStart => exact ⟨0, Nat.zero_le _, rfl, by simp, Grow.refl _⟩
              case round =>
                obtain ⟨j, hj, rfl, rfl, hg6⟩ := hrel
                have x0 := (hg6.same _ 0 sF5).trans u0
                have x4 := (hg6.same _ 4 sT5).trans u4
                have sF6 := Nat.lt_of_lt_of_le sF5 hg6.size
                have sT6 := Nat.lt_of_lt_of_le sT5 hg6.size
                have hg46 := hg5.trans hg6
                by_cases hltj : j < q3
                · have j0 : (0 : Int) ≤ (j : Int) := Int.natCast_nonneg j
                  have j1 : (j : Int) < (q3 : Int) := Int.ofNat_lt.mpr hltj
                  obtain ⟨bK, oK, ck, AE, LE, CE, rfl, hxk, _, hbK, z0, se, _⟩ := check_at (SH.out.grow hg46) hltj
                  obtain ⟨a, ha⟩ : ∃ a, trL ck.expr r.vals = a := ⟨_, rfl⟩
                  have HA := Lib.hid ha
                  have HST : Hid ((b1 || (k2 && (t.checks.take (j + 1)).any (chkV r.vals))) = ((b1 || (k2 && (t.checks.take j).any (chkV r.vals))) || (k2 && decide (a < 1)))) := Lib.hid (by
                    rw [any_take' _ hxk.out, ← ha]; unfold chkV; cases b1 <;> cases k2 <;> simp)
                  obtain ⟨b, hb⟩ : ∃ b, (b1 || (k2 && (t.checks.take j).any (chkV r.vals))) = b := ⟨_, rfl⟩
                  rw [hb] at HST ⊢
                  clear hxk hb ha
                  have hcur := Grow.refl wr
                  have HJ : Hid (j + 1 ≤ q3) := Lib.hid hltj
                  have HM : Hid (q3 - (j + 1) < q3 - j) := Lib.hid (by omega)
                  cases b with
                  | true =>
                    go_wp2_with ((go_at_call 15; (with_reducible refine (iTruth_f HA.out _ (se.grow hcur) (SV.out.grow (hg46.trans hcur))).mono ?_); rintro e w1 ⟨rfl, hb⟩; replace hcur := hcur.trans hb; replace hc := hcur.same; clear hb))
                    go_roundw
                    case rel => exact ⟨j + 1, HJ.out, by go_num, by rw [HST.out]; rfl, hg6.trans hcur⟩
                    case measure => exact HM.out
                  | false =>
                    cases k2 with
                    | false =>
                      go_wp2_with ((go_at_call 15; (with_reducible refine (iTruth_f HA.out _ (se.grow hcur) (SV.out.grow (hg46.trans hcur))).mono ?_); rintro e w1 ⟨rfl, hb⟩; replace hcur := hcur.trans hb; replace hc := hcur.same; clear hb))
                      go_roundw
                      case rel => exact ⟨j + 1, HJ.out, by go_num, by rw [HST.out]; rfl, hg6.trans hcur⟩
                      case measure => exact HM.out
                    | true =>
                      by_cases ha0 : a < 0
                      · have ha2 : decide (a < 1) = true := by (simp; omega)
                        have HA2 := Lib.hid ha2
                        clear ha2
                        go_wp2_with ((go_at_call 15; (with_reducible refine (iTruth_f HA.out _ (se.grow hcur) (SV.out.grow (hg46.trans hcur))).mono ?_); rintro e w1 ⟨rfl, hb⟩; replace hcur := hcur.trans hb; replace hc := hcur.same; clear hb))
                        go_roundw
                        case rel => exact ⟨j + 1, HJ.out, by go_num, by rw [HST.out, HA2.out]; rfl, hg6.trans hcur⟩
                        case measure => exact HM.out
                      · cases ha1 : (a == 0) with
                        | true =>
                          have ha2 : decide (a < 1) = true := by (simp at ha1 ⊢; omega)
                          have HA2 := Lib.hid ha2
                          clear ha2
                          go_wp2_with ((go_at_call 15; (with_reducible refine (iTruth_f HA.out _ (se.grow hcur) (SV.out.grow (hg46.trans hcur))).mono ?_); rintro e w1 ⟨rfl, hb⟩; replace hcur := hcur.trans hb; replace hc := hcur.same; clear hb))
                          go_roundw
                          case rel => exact ⟨j + 1, HJ.out, by go_num, by rw [HST.out, HA2.out]; rfl, hg6.trans hcur⟩
                          case measure => exact HM.out
                        | false =>
                          have ha2 : decide (a < 1) = false := by (simp at ha0 ha1 ⊢; omega)
                          have ha3 : decide (a < 0) = false := by simpa using ha0
                          have HA2 := Lib.hid ha2
                          clear ha2
                          go_wp2_with ((go_at_call 15; (with_reducible refine (iTruth_f HA.out _ (se.grow hcur) (SV.out.grow (hg46.trans hcur))).mono ?_); rintro e w1 ⟨rfl, hb⟩; replace hcur := hcur.trans hb; replace hc := hcur.same; clear hb))
                          go_roundw
                          case rel => exact ⟨j + 1, HJ.out, by go_num, by rw [HST.out, HA2.out]; rfl, hg6.trans hcur⟩
                          case measure => exact HM.out
                · as_aux_lemma =>
                    obtain rfl : j = q3 := by omega
                    obtain ⟨b2, hb2⟩ : ∃ b, (b1 || (k2 && (t.checks.take j).any (chkV r.vals))) = b := ⟨_, rfl⟩
                    have HB2 : Hid ((b1 || (k2 && t.checks.any (chkV r.vals))) = b2) := Lib.hid (by rw [← hb2, List.take_of_length_le (by rw [SH.out.1]; exact Nat.le_refl _)])
                    obtain ⟨V6, hV6⟩ : ∃ V, V = wr := ⟨_, rfl⟩
                    obtain ⟨k3, hk3⟩ : ∃ b, (kd == 3) = b := ⟨_, rfl⟩
                    rw [hb2]
                    rw [← hV6] at hg6 hg46 sF6 sT6 x4 ⊢
                    clear hV6 hb2 x0
                    have HK2 := Lib.hid hk2
                    clear hk2 u0 u4 x1
                    have x2 := ((hg46.same _ 2 sT4).trans ((free_of HBT.out).1 2))
                    have x3 := ((hg46.same _ 3 sT4).trans ((free_of HBT.out).1 3))
                    simp only [List.getElem?_toArray, List.getElem?_cons_succ, List.getElem?_cons_zero] at x2 x3
                    have gw6 : Grow w V6 := G3.trans (G4.out.trans hg46)
                    have gl : Grow V6 (V6.alloc (.cells #[.slice T1 q1 d1] 54)) := (Grow.refl _).alloc _
                    have hled : ∀ b, Fresh w.heap.size V4 b → Led w.heap.size (V6.alloc (.cells #[.slice T1 q1 d1] 54)) (some ⟨V6.heap.size, 0, none⟩) b := fun b hb => ⟨(hb.grow hg46).grow gl, fun e => by
                      have h1 := hb.2.1
                      have h2 := hg46.size
                      simp only [blockOf, Option.some.injEq] at e
                      omega⟩
                    have hkeep : ∀ b, Fresh w.heap.size V4 b → (V6.alloc (.cells #[.slice T1 q1 d1] 54)).heap[b]? = V4.heap[b]? := fun b hb => (gl.block (Nat.lt_of_lt_of_le hb.2.1 hg46.size)).trans (hg46.block hb.2.1)
                    have OWN : OwnG Kd.unique 54 w.heap.size (V6.alloc (.cells #[.slice T1 q1 d1] 54)) (some ⟨V6.heap.size, 0, none⟩) 1 1 [(⟨t.key⟩ : Unique)] :=
                      OwnG.lit (new_block V6 _) gw6.size (flat_one ⟨T1, q1, d1, rfl, SK.out.mono hled hkeep⟩) rfl (by decide)
                    have SRC := SU.out.mono hled hkeep
                    have hz6 : w.heap.size ≤ (V6.alloc (.cells #[.slice T1 q1 d1] 54)).heap.size := Nat.le_trans gw6.size gl.size
                    go_wp2_with (at_builtin; refine wpList_appG ones_unique elem_unique rfl (.tmp 158) (.tmp 160) (by rfl) (by rfl) OWN hz6 (by rfl) SRC (fun _ h => h) (q := 1 + q2) rfl (by unfold maxLen; omega) (by omega) (fun A7 c7 V7 ap7 => ?_))
                    have gV7 : Grow V6 V7 := ap7.growLit gl
                    have ALL := Lib.hid (ap7.own.isSl.fresh)
                    obtain ⟨us, hus⟩ : ∃ us, [(⟨t.key⟩ : Unique)] ++ t.uniques = us := ⟨_, rfl⟩
                    obtain ⟨nU, hnU⟩ : ∃ q, 1 + q2 = q := ⟨_, rfl⟩
                    rw [hus] at ALL
                    rw [hnU] at ALL ⊢
                    have HUS : Hid (us.any (fun u => dupB s db p r.vals u.cols) = (keysOf t).any (dupB s db p r.vals)) := Lib.hid (by rw [← hus]; exact keys_any s db p r.vals t)
                    have HKU : Hid (∀ u ∈ us, u.cols.length ≤ 8) := Lib.hid (fun u hu => by
                      have hm : u.cols ∈ keysOf t := by
                        rw [← hus] at hu
                        rcases List.mem_cons.mp hu with rfl | hu
                        · exact List.mem_cons_self
                        · exact List.mem_cons_of_mem _ (List.mem_map.mpr ⟨u, hu, rfl⟩)
                      exact Nat.le_trans (colsB_len (key_in HT.out _ hm)) (tableOk_cols HT.out).2)
                    have hnU4 : nU ≤ 4 := by omega
                    have sF7 := Nat.lt_of_lt_of_le sF6 gV7.size
                    have sT7 := Nat.lt_of_lt_of_le sT6 gV7.size
                    have hg47 := hg46.trans gV7
                    have HK3 := Lib.hid hk3
                    clear hus hnU OWN SRC hled hkeep gl hz6 ap7 gw6 hk3 x2 x3
                    have u0 := ((hg47.same _ 0 sF4).trans ((free_of HBF.out).1 0))
                    have u1 := ((hg47.same _ 1 sF4).trans ((free_of HBF.out).1 1))
                    simp only [List.getElem?_toArray, List.getElem?_cons_succ, List.getElem?_cons_zero] at u0 u1
                    have U0 := Lib.hid u0
                    have U1 := Lib.hid u1
                    clear u0 u1
                    go_wp2
                    go_loopw [13, 18] (fun bv jv w5 => ∃ j : Nat, j ≤ nU ∧ jv = .int .i64 j ∧ bv = .bool (b2 || (k3 && (us.take j).any (fun u => dupB s db p r.vals u.cols))) ∧ Grow V7 w5) (fun _ jv _ => nU - (intOf jv).toNat)
                    case atStart => exact ⟨0, Nat.zero_le _, rfl, by simp, Grow.refl _⟩
                    case round =>
                      obtain ⟨j, hj, rfl, rfl, hg8⟩ := hrel
                      by_cases hltj : j < nU
                      · have j0 : (0 : Int) ≤ (j : Int) := Int.natCast_nonneg j
                        have j1 : (j : Int) < (nU : Int) := Int.ofNat_lt.mpr hltj
                        obtain ⟨bU, oU, u, Au, Lu, Cu, rfl, hxu, _, hbU, z0, su', _⟩ := unique_at (ALL.out.grow hg8) hltj
                        have hLu : Lu ≤ 8 := by rw [← su'.1]; exact HKU.out u (List.mem_of_getElem? hxu.out)
                        obtain ⟨wh, hwh⟩ : ∃ q, kKn u.cols r.vals = q := ⟨_, rfl⟩
                        obtain ⟨ks, hks⟩ : ∃ q, kOf u.cols r.vals = q := ⟨_, rfl⟩
                        obtain ⟨fs, hfs⟩ : ∃ q, findV s db p u.cols ks = q := ⟨_, rfl⟩
                        have HWH := Lib.hid hwh
                        have HKS := Lib.hid hks
                        have HFS := Lib.hid hfs
                        have HST : Hid ((b2 || (k3 && (us.take (j + 1)).any (fun u => dupB s db p r.vals u.cols))) = ((b2 || (k3 && (us.take j).any (fun u => dupB s db p r.vals u.cols))) || (k3 && (wh && decide (1 < fs.length))))) := Lib.hid (by
                          rw [any_take' _ hxu.out]
                          have : dupB s db p r.vals u.cols = (wh && decide (1 < fs.length)) := by unfold dupB; rw [hwh, hks, hfs]
                          rw [this]; cases b2 <;> cases k3 <;> simp)
                        obtain ⟨b, hb⟩ : ∃ b, (b2 || (k3 && (us.take j).any (fun u => dupB s db p r.vals u.cols))) = b := ⟨_, rfl⟩
                        have HJ : Hid (j + 1 ≤ nU) := Lib.hid hltj
                        have HM : Hid (nU - (j + 1) < nU - j) := Lib.hid (by omega)
                        have SU' := Lib.hid su'
                        rw [hb] at HST ⊢
                        clear hxu hb hwh hks hfs su'
                        go_wp2_with fail
                        refine (iKeyOf_f HWH.out HKS.out _ SU'.out (SV.out.grow (hg47.trans hg8)) (Nat.le_trans hLu (by decide))).mono ?_
                        rintro e wK ⟨AK, lK, cK, rfl, tK, gK⟩
                        have gK8 := hg8.trans gK
                        have g4K := hg47.trans gK8
                        have x0 := (gK8.same _ 0 sF7).trans U0.out
                        have x1 := (gK8.same _ 1 sF7).trans U1.out
                        have y0 := (gK.same _ _ hbU).trans z0
                        have hbK := Nat.lt_of_lt_of_le hbU gK.size
                        have sFK := Nat.lt_of_lt_of_le sF7 gK8.size
                        have TK := Lib.hid tK.fresh
                        have sKd := Lib.hid (hS4.out.grow g4K)
                        have dKd := Lib.hid (hD4.out.grow g4K)
                        have uKd := Lib.hid (SU'.out.grow gK)
                        clear z0 tK
                        go_wp2_with fail
                        cases b with
                        | true =>
                          refine wp_region_held_drew (S := (fun w' => Grow wK w' ∧ Same wK w')) (by kernel_rfl) (by exact Grow.both (by repeat (with_reducible first | exact Grow.refl _ | assumption | refine Grow.drew ?_ | refine Grow.alloc ?_ _ | refine Grow.set ?_ (by first | exact Nat.le_refl _ | (simp; done) | (simp; omega) | omega) _ | exact And.left (by assumption) | refine Grow.trans ?_ (by assumption)))) (fun hHeld => ?_)
                          ((refine tk 0 178 rfl rfl (v := ?_) ?_ ?_; rotate_left 1; (focus (intro w hSw; (try dsimp only at hSw); go_simp; (try with_reducible rfl); done)); all_goals (try simp only [Act.put, List.setIfInBounds_toArray, List.set_cons_zero, List.set_cons_succ])); (refine tk 1 179 rfl rfl (v := ?_) ?_ ?_; rotate_left 1; (focus (intro w hSw; (try dsimp only at hSw); go_simp; (try with_reducible rfl); done)); all_goals (try simp only [Act.put, List.setIfInBounds_toArray, List.set_cons_zero, List.set_cons_succ])))
                          (refine sk 2 180 rfl rfl ?_; (try simp only [Act.put, List.setIfInBounds_toArray, List.set_cons_zero, List.set_cons_succ]); refine sk 3 181 rfl rfl ?_; (try simp only [Act.put, List.setIfInBounds_toArray, List.set_cons_zero, List.set_cons_succ]); refine sk 4 182 rfl rfl ?_; (try simp only [Act.put, List.setIfInBounds_toArray, List.set_cons_zero, List.set_cons_succ]); refine sk 5 183 rfl rfl ?_; (try simp only [Act.put, List.setIfInBounds_toArray, List.set_cons_zero, List.set_cons_succ]); refine sk 6 184 rfl rfl ?_; (try simp only [Act.put, List.setIfInBounds_toArray, List.set_cons_zero, List.set_cons_succ]); refine sk 7 185 rfl rfl ?_; (try simp only [Act.put, List.setIfInBounds_toArray, List.set_cons_zero, List.set_cons_succ]); refine sk 8 186 rfl rfl ?_; (try simp only [Act.put, List.setIfInBounds_toArray, List.set_cons_zero, List.set_cons_succ]); refine sk 9 187 rfl rfl ?_; (try simp only [Act.put, List.setIfInBounds_toArray, List.set_cons_zero, List.set_cons_succ]); refine sk 10 188 rfl rfl ?_; (try simp only [Act.put, List.setIfInBounds_toArray, List.set_cons_zero, List.set_cons_succ]); refine sk 11 189 rfl rfl ?_; (try simp only [Act.put, List.setIfInBounds_toArray, List.set_cons_zero, List.set_cons_succ]); refine sk 12 190 rfl rfl ?_; (try simp only [Act.put, List.setIfInBounds_toArray, List.set_cons_zero, List.set_cons_succ]); refine sk 13 191 rfl rfl ?_; (try simp only [Act.put, List.setIfInBounds_toArray, List.set_cons_zero, List.set_cons_succ]); refine sk 14 192 rfl rfl ?_; (try simp only [Act.put, List.setIfInBounds_toArray, List.set_cons_zero, List.set_cons_succ]); refine sk 15 193 rfl rfl ?_; (try simp only [Act.put, List.setIfInBounds_toArray, List.set_cons_zero, List.set_cons_succ]); refine sk 16 194 rfl rfl ?_; (try simp only [Act.put, List.setIfInBounds_toArray, List.set_cons_zero, List.set_cons_succ]); refine sk 17 195 rfl rfl ?_; (try simp only [Act.put, List.setIfInBounds_toArray, List.set_cons_zero, List.set_cons_succ]); refine sk 18 196 rfl rfl ?_; (try simp only [Act.put, List.setIfInBounds_toArray, List.set_cons_zero, List.set_cons_succ]); refine sk 19 197 rfl rfl ?_; (try simp only [Act.put, List.setIfInBounds_toArray, List.set_cons_zero, List.set_cons_succ]); refine sk 20 198 rfl rfl ?_; (try simp only [Act.put, List.setIfInBounds_toArray, List.set_cons_zero, List.set_cons_succ]); refine sk 21 199 rfl rfl ?_; (try simp only [Act.put, List.setIfInBounds_toArray, List.set_cons_zero, List.set_cons_succ]); refine sk 22 200 rfl rfl ?_; (try simp only [Act.put, List.setIfInBounds_toArray, List.set_cons_zero, List.set_cons_succ]))
                          ((refine tk 23 201 rfl rfl (v := ?_) ?_ ?_; rotate_left 1; (focus (intro w hSw; (try dsimp only at hSw); go_simp; (try with_reducible rfl); done)); all_goals (try simp only [Act.put, List.setIfInBounds_toArray, List.set_cons_zero, List.set_cons_succ])))
                          ((refine tk 24 13 rfl rfl (v := ?_) ?_ ?_; rotate_left 1; (focus (intro w hSw; (try dsimp only at hSw); go_simp; (try with_reducible rfl); done)); all_goals (try simp only [Act.put, List.setIfInBounds_toArray, List.set_cons_zero, List.set_cons_succ])))
                          refine wpAnyH_done (by kernel_rfl) ?_ _
                          go_wp2
                          go_roundw
                          case rel => exact ⟨j + 1, HJ.out, by go_num, by rw [HST.out]; rfl, gK8.drew⟩
                          case measure => exact HM.out
                        | false =>
                          cases k3 with
                          | false =>
                            have hk3 := HK3.out
                            refine wp_region_held_drew (S := (fun w' => Grow wK w' ∧ Same wK w')) (by kernel_rfl) (by exact Grow.both (by repeat (with_reducible first | exact Grow.refl _ | assumption | refine Grow.drew ?_ | refine Grow.alloc ?_ _ | refine Grow.set ?_ (by first | exact Nat.le_refl _ | (simp; done) | (simp; omega) | omega) _ | exact And.left (by assumption) | refine Grow.trans ?_ (by assumption)))) (fun hHeld => ?_)
                            ((refine tk 0 178 rfl rfl (v := ?_) ?_ ?_; rotate_left 1; (focus (intro w hSw; (try dsimp only at hSw); go_simp; (try with_reducible rfl); done)); all_goals (try simp only [Act.put, List.setIfInBounds_toArray, List.set_cons_zero, List.set_cons_succ])); (refine tk 1 179 rfl rfl (v := ?_) ?_ ?_; rotate_left 1; (focus (intro w hSw; (try dsimp only at hSw); go_simp; (try with_reducible rfl); done)); all_goals (try simp only [Act.put, List.setIfInBounds_toArray, List.set_cons_zero, List.set_cons_succ])); (refine tk 2 180 rfl rfl (v := ?_) ?_ ?_; rotate_left 1; (focus (intro w hSw; (try dsimp only at hSw); go_simp; (try with_reducible rfl); done)); all_goals (try simp only [Act.put, List.setIfInBounds_toArray, List.set_cons_zero, List.set_cons_succ])); (refine tk 3 181 rfl rfl (v := ?_) ?_ ?_; rotate_left 1; (focus (intro w hSw; (try dsimp only at hSw); go_simp; (try with_reducible rfl); done)); all_goals (try simp only [Act.put, List.setIfInBounds_toArray, List.set_cons_zero, List.set_cons_succ])); (refine tk 4 182 rfl rfl (v := ?_) ?_ ?_; rotate_left 1; (focus (intro w hSw; (try dsimp only at hSw); go_simp; (try with_reducible rfl); done)); all_goals (try simp only [Act.put, List.setIfInBounds_toArray, List.set_cons_zero, List.set_cons_succ])); (refine tk 5 183 rfl rfl (v := ?_) ?_ ?_; rotate_left 1; (focus (intro w hSw; (try dsimp only at hSw); go_simp; (try with_reducible rfl); done)); all_goals (try simp only [Act.put, List.setIfInBounds_toArray, List.set_cons_zero, List.set_cons_succ])))
                            (refine sk 6 184 rfl rfl ?_; (try simp only [Act.put, List.setIfInBounds_toArray, List.set_cons_zero, List.set_cons_succ]))
                            ((refine tk 7 185 rfl rfl (v := ?_) ?_ ?_; rotate_left 1; (focus (intro w hSw; (try dsimp only at hSw); go_simp; (try with_reducible rfl); done)); all_goals (try simp only [Act.put, List.setIfInBounds_toArray, List.set_cons_zero, List.set_cons_succ])); (refine tk 8 186 rfl rfl (v := ?_) ?_ ?_; rotate_left 1; (focus (intro w hSw; (try dsimp only at hSw); go_simp; (try with_reducible rfl); done)); all_goals (try simp only [Act.put, List.setIfInBounds_toArray, List.set_cons_zero, List.set_cons_succ])))
                            (refine sk 9 187 rfl rfl ?_; (try simp only [Act.put, List.setIfInBounds_toArray, List.set_cons_zero, List.set_cons_succ]); refine sk 10 188 rfl rfl ?_; (try simp only [Act.put, List.setIfInBounds_toArray, List.set_cons_zero, List.set_cons_succ]); refine sk 11 189 rfl rfl ?_; (try simp only [Act.put, List.setIfInBounds_toArray, List.set_cons_zero, List.set_cons_succ]); refine sk 12 190 rfl rfl ?_; (try simp only [Act.put, List.setIfInBounds_toArray, List.set_cons_zero, List.set_cons_succ]); refine sk 13 191 rfl rfl ?_; (try simp only [Act.put, List.setIfInBounds_toArray, List.set_cons_zero, List.set_cons_succ]); refine sk 14 192 rfl rfl ?_; (try simp only [Act.put, List.setIfInBounds_toArray, List.set_cons_zero, List.set_cons_succ]); refine sk 15 193 rfl rfl ?_; (try simp only [Act.put, List.setIfInBounds_toArray, List.set_cons_zero, List.set_cons_succ]); refine sk 16 194 rfl rfl ?_; (try simp only [Act.put, List.setIfInBounds_toArray, List.set_cons_zero, List.set_cons_succ]); refine sk 17 195 rfl rfl ?_; (try simp only [Act.put, List.setIfInBounds_toArray, List.set_cons_zero, List.set_cons_succ]); refine sk 18 196 rfl rfl ?_; (try simp only [Act.put, List.setIfInBounds_toArray, List.set_cons_zero, List.set_cons_succ]); refine sk 19 197 rfl rfl ?_; (try simp only [Act.put, List.setIfInBounds_toArray, List.set_cons_zero, List.set_cons_succ]); refine sk 20 198 rfl rfl ?_; (try simp only [Act.put, List.setIfInBounds_toArray, List.set_cons_zero, List.set_cons_succ]); refine sk 21 199 rfl rfl ?_; (try simp only [Act.put, List.setIfInBounds_toArray, List.set_cons_zero, List.set_cons_succ]))
                            ((refine tk 22 200 rfl rfl (v := ?_) ?_ ?_; rotate_left 1; (focus (intro w hSw; (try dsimp only at hSw); go_simp; (try with_reducible rfl); done)); all_goals (try simp only [Act.put, List.setIfInBounds_toArray, List.set_cons_zero, List.set_cons_succ])); (refine tk 23 201 rfl rfl (v := ?_) ?_ ?_; rotate_left 1; (focus (intro w hSw; (try dsimp only at hSw); go_simp; (try with_reducible rfl); done)); all_goals (try simp only [Act.put, List.setIfInBounds_toArray, List.set_cons_zero, List.set_cons_succ])))
                            ((refine tk 24 13 rfl rfl (v := ?_) ?_ ?_; rotate_left 1; (focus (intro w hSw; (try dsimp only at hSw); go_simp; (try with_reducible rfl); done)); all_goals (try simp only [Act.put, List.setIfInBounds_toArray, List.set_cons_zero, List.set_cons_succ])))
                            refine wpAnyH_done (by kernel_rfl) ?_ _
                            go_wp2
                            go_roundw
                            case rel => exact ⟨j + 1, HJ.out, by go_num, by rw [HST.out]; rfl, gK8.drew⟩
                            case measure => exact HM.out
                          | true =>
                            have hk3 := HK3.out
                            cases wh with
                            | false =>
                              refine wp_region_held_drew (S := (fun w' => Grow wK w' ∧ Same wK w')) (by kernel_rfl) (by exact Grow.both (by repeat (with_reducible first | exact Grow.refl _ | assumption | refine Grow.drew ?_ | refine Grow.alloc ?_ _ | refine Grow.set ?_ (by first | exact Nat.le_refl _ | (simp; done) | (simp; omega) | omega) _ | exact And.left (by assumption) | refine Grow.trans ?_ (by assumption)))) (fun hHeld => ?_)
                              ((refine tk 0 178 rfl rfl (v := ?_) ?_ ?_; rotate_left 1; (focus (intro w hSw; (try dsimp only at hSw); go_simp; (try with_reducible rfl); done)); all_goals (try simp only [Act.put, List.setIfInBounds_toArray, List.set_cons_zero, List.set_cons_succ])); (refine tk 1 179 rfl rfl (v := ?_) ?_ ?_; rotate_left 1; (focus (intro w hSw; (try dsimp only at hSw); go_simp; (try with_reducible rfl); done)); all_goals (try simp only [Act.put, List.setIfInBounds_toArray, List.set_cons_zero, List.set_cons_succ])); (refine tk 2 180 rfl rfl (v := ?_) ?_ ?_; rotate_left 1; (focus (intro w hSw; (try dsimp only at hSw); go_simp; (try with_reducible rfl); done)); all_goals (try simp only [Act.put, List.setIfInBounds_toArray, List.set_cons_zero, List.set_cons_succ])); (refine tk 3 181 rfl rfl (v := ?_) ?_ ?_; rotate_left 1; (focus (intro w hSw; (try dsimp only at hSw); go_simp; (try with_reducible rfl); done)); all_goals (try simp only [Act.put, List.setIfInBounds_toArray, List.set_cons_zero, List.set_cons_succ])); (refine tk 4 182 rfl rfl (v := ?_) ?_ ?_; rotate_left 1; (focus (intro w hSw; (try dsimp only at hSw); go_simp; (try with_reducible rfl); done)); all_goals (try simp only [Act.put, List.setIfInBounds_toArray, List.set_cons_zero, List.set_cons_succ])); (refine tk 5 183 rfl rfl (v := ?_) ?_ ?_; rotate_left 1; (focus (intro w hSw; (try dsimp only at hSw); go_simp; (try with_reducible rfl); done)); all_goals (try simp only [Act.put, List.setIfInBounds_toArray, List.set_cons_zero, List.set_cons_succ])); (refine tk 6 184 rfl rfl (v := ?_) ?_ ?_; rotate_left 1; (focus (intro w hSw; (try dsimp only at hSw); go_simp; (try with_reducible rfl); done)); all_goals (try simp only [Act.put, List.setIfInBounds_toArray, List.set_cons_zero, List.set_cons_succ])); (refine tk 7 185 rfl rfl (v := ?_) ?_ ?_; rotate_left 1; (focus (intro w hSw; (try dsimp only at hSw); go_simp; (try with_reducible rfl); done)); all_goals (try simp only [Act.put, List.setIfInBounds_toArray, List.set_cons_zero, List.set_cons_succ])); (refine tk 8 186 rfl rfl (v := ?_) ?_ ?_; rotate_left 1; (focus (intro w hSw; (try dsimp only at hSw); go_simp; (try with_reducible rfl); done)); all_goals (try simp only [Act.put, List.setIfInBounds_toArray, List.set_cons_zero, List.set_cons_succ])))
                              (refine sk 9 187 rfl rfl ?_; (try simp only [Act.put, List.setIfInBounds_toArray, List.set_cons_zero, List.set_cons_succ]); refine sk 10 188 rfl rfl ?_; (try simp only [Act.put, List.setIfInBounds_toArray, List.set_cons_zero, List.set_cons_succ]); refine sk 11 189 rfl rfl ?_; (try simp only [Act.put, List.setIfInBounds_toArray, List.set_cons_zero, List.set_cons_succ]); refine sk 12 190 rfl rfl ?_; (try simp only [Act.put, List.setIfInBounds_toArray, List.set_cons_zero, List.set_cons_succ]); refine sk 13 191 rfl rfl ?_; (try simp only [Act.put, List.setIfInBounds_toArray, List.set_cons_zero, List.set_cons_succ]); refine sk 14 192 rfl rfl ?_; (try simp only [Act.put, List.setIfInBounds_toArray, List.set_cons_zero, List.set_cons_succ]); refine sk 15 193 rfl rfl ?_; (try simp only [Act.put, List.setIfInBounds_toArray, List.set_cons_zero, List.set_cons_succ]); refine sk 16 194 rfl rfl ?_; (try simp only [Act.put, List.setIfInBounds_toArray, List.set_cons_zero, List.set_cons_succ]); refine sk 17 195 rfl rfl ?_; (try simp only [Act.put, List.setIfInBounds_toArray, List.set_cons_zero, List.set_cons_succ]); refine sk 18 196 rfl rfl ?_; (try simp only [Act.put, List.setIfInBounds_toArray, List.set_cons_zero, List.set_cons_succ]); refine sk 19 197 rfl rfl ?_; (try simp only [Act.put, List.setIfInBounds_toArray, List.set_cons_zero, List.set_cons_succ]); refine sk 20 198 rfl rfl ?_; (try simp only [Act.put, List.setIfInBounds_toArray, List.set_cons_zero, List.set_cons_succ]); refine sk 21 199 rfl rfl ?_; (try simp only [Act.put, List.setIfInBounds_toArray, List.set_cons_zero, List.set_cons_succ]))
                              ((refine tk 22 200 rfl rfl (v := ?_) ?_ ?_; rotate_left 1; (focus (intro w hSw; (try dsimp only at hSw); go_simp; (try with_reducible rfl); done)); all_goals (try simp only [Act.put, List.setIfInBounds_toArray, List.set_cons_zero, List.set_cons_succ])); (refine tk 23 201 rfl rfl (v := ?_) ?_ ?_; rotate_left 1; (focus (intro w hSw; (try dsimp only at hSw); go_simp; (try with_reducible rfl); done)); all_goals (try simp only [Act.put, List.setIfInBounds_toArray, List.set_cons_zero, List.set_cons_succ])))
                              ((refine tk 24 13 rfl rfl (v := ?_) ?_ ?_; rotate_left 1; (focus (intro w hSw; (try dsimp only at hSw); go_simp; (try with_reducible rfl); done)); all_goals (try simp only [Act.put, List.setIfInBounds_toArray, List.set_cons_zero, List.set_cons_succ])))
                              refine wpAnyH_done (by kernel_rfl) ?_ _
                              go_wp2
                              go_roundw
                              case rel => exact ⟨j + 1, HJ.out, by go_num, by rw [HST.out]; rfl, gK8.drew⟩
                              case measure => exact HM.out
                            | true =>
                              refine wp_region_held_drew (S := (fun w' => Grow wK w' ∧ Same wK w')) (by kernel_rfl) (by exact Grow.both (by repeat (with_reducible first | exact Grow.refl _ | assumption | refine Grow.drew ?_ | refine Grow.alloc ?_ _ | refine Grow.set ?_ (by first | exact Nat.le_refl _ | (simp; done) | (simp; omega) | omega) _ | exact And.left (by assumption) | refine Grow.trans ?_ (by assumption)))) (fun hHeld => ?_)
                              ((refine tk 0 178 rfl rfl (v := ?_) ?_ ?_; rotate_left 1; (focus (intro w hSw; (try dsimp only at hSw); go_simp; (try with_reducible rfl); done)); all_goals (try simp only [Act.put, List.setIfInBounds_toArray, List.set_cons_zero, List.set_cons_succ])); (refine tk 1 179 rfl rfl (v := ?_) ?_ ?_; rotate_left 1; (focus (intro w hSw; (try dsimp only at hSw); go_simp; (try with_reducible rfl); done)); all_goals (try simp only [Act.put, List.setIfInBounds_toArray, List.set_cons_zero, List.set_cons_succ])); (refine tk 2 180 rfl rfl (v := ?_) ?_ ?_; rotate_left 1; (focus (intro w hSw; (try dsimp only at hSw); go_simp; (try with_reducible rfl); done)); all_goals (try simp only [Act.put, List.setIfInBounds_toArray, List.set_cons_zero, List.set_cons_succ])); (refine tk 3 181 rfl rfl (v := ?_) ?_ ?_; rotate_left 1; (focus (intro w hSw; (try dsimp only at hSw); go_simp; (try with_reducible rfl); done)); all_goals (try simp only [Act.put, List.setIfInBounds_toArray, List.set_cons_zero, List.set_cons_succ])); (refine tk 4 182 rfl rfl (v := ?_) ?_ ?_; rotate_left 1; (focus (intro w hSw; (try dsimp only at hSw); go_simp; (try with_reducible rfl); done)); all_goals (try simp only [Act.put, List.setIfInBounds_toArray, List.set_cons_zero, List.set_cons_succ])); (refine tk 5 183 rfl rfl (v := ?_) ?_ ?_; rotate_left 1; (focus (intro w hSw; (try dsimp only at hSw); go_simp; (try with_reducible rfl); done)); all_goals (try simp only [Act.put, List.setIfInBounds_toArray, List.set_cons_zero, List.set_cons_succ])); (refine tk 6 184 rfl rfl (v := ?_) ?_ ?_; rotate_left 1; (focus (intro w hSw; (try dsimp only at hSw); go_simp; (try with_reducible rfl); done)); all_goals (try simp only [Act.put, List.setIfInBounds_toArray, List.set_cons_zero, List.set_cons_succ])); (refine tk 7 185 rfl rfl (v := ?_) ?_ ?_; rotate_left 1; (focus (intro w hSw; (try dsimp only at hSw); go_simp; (try with_reducible rfl); done)); all_goals (try simp only [Act.put, List.setIfInBounds_toArray, List.set_cons_zero, List.set_cons_succ])); (refine tk 8 186 rfl rfl (v := ?_) ?_ ?_; rotate_left 1; (focus (intro w hSw; (try dsimp only at hSw); go_simp; (try with_reducible rfl); done)); all_goals (try simp only [Act.put, List.setIfInBounds_toArray, List.set_cons_zero, List.set_cons_succ])); (refine tk 9 187 rfl rfl (v := ?_) ?_ ?_; rotate_left 1; (focus (intro w hSw; (try dsimp only at hSw); go_simp; (try with_reducible rfl); done)); all_goals (try simp only [Act.put, List.setIfInBounds_toArray, List.set_cons_zero, List.set_cons_succ])); (refine tk 10 188 rfl rfl (v := ?_) ?_ ?_; rotate_left 1; (focus (intro w hSw; (try dsimp only at hSw); go_simp; (try with_reducible rfl); done)); all_goals (try simp only [Act.put, List.setIfInBounds_toArray, List.set_cons_zero, List.set_cons_succ])); (refine tk 11 189 rfl rfl (v := ?_) ?_ ?_; rotate_left 1; (focus (intro w hSw; (try dsimp only at hSw); go_simp; (try with_reducible rfl); done)); all_goals (try simp only [Act.put, List.setIfInBounds_toArray, List.set_cons_zero, List.set_cons_succ])); (refine tk 12 190 rfl rfl (v := ?_) ?_ ?_; rotate_left 1; (focus (intro w hSw; (try dsimp only at hSw); go_simp; (try with_reducible rfl); done)); all_goals (try simp only [Act.put, List.setIfInBounds_toArray, List.set_cons_zero, List.set_cons_succ])); (refine tk 13 191 rfl rfl (v := ?_) ?_ ?_; rotate_left 1; (focus (intro w hSw; (try dsimp only at hSw); go_simp; (try with_reducible rfl); done)); all_goals (try simp only [Act.put, List.setIfInBounds_toArray, List.set_cons_zero, List.set_cons_succ])); (refine tk 14 192 rfl rfl (v := ?_) ?_ ?_; rotate_left 1; (focus (intro w hSw; (try dsimp only at hSw); go_simp; (try with_reducible rfl); done)); all_goals (try simp only [Act.put, List.setIfInBounds_toArray, List.set_cons_zero, List.set_cons_succ])); (refine tk 15 193 rfl rfl (v := ?_) ?_ ?_; rotate_left 1; (focus (intro w hSw; (try dsimp only at hSw); go_simp; (try with_reducible rfl); done)); all_goals (try simp only [Act.put, List.setIfInBounds_toArray, List.set_cons_zero, List.set_cons_succ])); (refine tk 16 194 rfl rfl (v := ?_) ?_ ?_; rotate_left 1; (focus (intro w hSw; (try dsimp only at hSw); go_simp; (try with_reducible rfl); done)); all_goals (try simp only [Act.put, List.setIfInBounds_toArray, List.set_cons_zero, List.set_cons_succ])); (refine tk 17 195 rfl rfl (v := ?_) ?_ ?_; rotate_left 1; (focus (intro w hSw; (try dsimp only at hSw); go_simp; (try with_reducible rfl); done)); all_goals (try simp only [Act.put, List.setIfInBounds_toArray, List.set_cons_zero, List.set_cons_succ])); (refine tk 18 196 rfl rfl (v := ?_) ?_ ?_; rotate_left 1; (focus (intro w hSw; (try dsimp only at hSw); go_simp; (try with_reducible rfl); done)); all_goals (try simp only [Act.put, List.setIfInBounds_toArray, List.set_cons_zero, List.set_cons_succ])))
                              (refine wpAnyH_ready (rs := [19]) (by kernel_rfl) (by simp) ?_; refine AllReadyH.cons rfl (fun K hK => ?_) AllReadyH.nil; go_simp; (go_at_call 17; refine (iFindRows_f p HFS.out _ (sKd.out.grow (And.left (by assumption))) (dKd.out.grow (And.left (by assumption))) (uKd.out.grow (And.left (by assumption))) (TK.out.grow (And.left (by assumption)))).mono ?_; rintro e wY ⟨AY, lY, cY, rfl, tY, gY⟩); refine hK.out _ _ (by exact Grow.both (by repeat (with_reducible first | exact Grow.refl _ | assumption | refine Grow.drew ?_ | refine Grow.alloc ?_ _ | refine Grow.set ?_ (by first | exact Nat.le_refl _ | (simp; done) | (simp; omega) | omega) _ | exact And.left (by assumption) | refine Grow.trans ?_ (by assumption)))) (fun hHeld => ?_); clear hK K; (try refine held_put 197 rfl ?_); (try simp only [Act.put, List.setIfInBounds_toArray, List.set_cons_zero, List.set_cons_succ]))
                              ((refine tk 20 198 rfl rfl (v := ?_) ?_ ?_; rotate_left 1; (focus (intro w hSw; (try dsimp only at hSw); go_simp; (try with_reducible rfl); done)); all_goals (try simp only [Act.put, List.setIfInBounds_toArray, List.set_cons_zero, List.set_cons_succ])); (refine tk 21 199 rfl rfl (v := ?_) ?_ ?_; rotate_left 1; (focus (intro w hSw; (try dsimp only at hSw); go_simp; (try with_reducible rfl); done)); all_goals (try simp only [Act.put, List.setIfInBounds_toArray, List.set_cons_zero, List.set_cons_succ])); (refine tk 22 200 rfl rfl (v := ?_) ?_ ?_; rotate_left 1; (focus (intro w hSw; (try dsimp only at hSw); go_simp; (try with_reducible rfl); done)); all_goals (try simp only [Act.put, List.setIfInBounds_toArray, List.set_cons_zero, List.set_cons_succ])); (refine tk 23 201 rfl rfl (v := ?_) ?_ ?_; rotate_left 1; (focus (intro w hSw; (try dsimp only at hSw); go_simp; (try with_reducible rfl); done)); all_goals (try simp only [Act.put, List.setIfInBounds_toArray, List.set_cons_zero, List.set_cons_succ])))
                              ((refine tk 24 13 rfl rfl (v := ?_) ?_ ?_; rotate_left 1; (focus (intro w hSw; (try dsimp only at hSw); go_simp; (try with_reducible rfl); done)); all_goals (try simp only [Act.put, List.setIfInBounds_toArray, List.set_cons_zero, List.set_cons_succ])))
                              obtain ⟨gZ, _⟩ : Grow wK wY ∧ Same wK wY := by assumption
                              refine wpAnyH_done (by kernel_rfl) ?_ _
                              have hlY : decide (1 < fs.length) = decide ((1 : Int) < (lY : Int)) := decide_eq_decide.mpr (by rw [tY.1]; omega)
                              go_wp2
                              go_roundw
                              case rel => exact ⟨j + 1, HJ.out, by go_num, by rw [HST.out, hlY]; simp, gK8.trans gZ⟩
                              case measure => exact HM.out
                      · as_aux_lemma =>
                          obtain rfl : j = nU := by omega
                          obtain ⟨b3, hb3⟩ : ∃ b, (b2 || (k3 && (us.take j).any (fun u => dupB s db p r.vals u.cols))) = b := ⟨_, rfl⟩
                          have HB3 := Lib.hid hb3
                          have hul : Hid (us.length = j) := Lib.hid ALL.out.1
                          obtain ⟨V8, hV8⟩ : ∃ V, V = wr := ⟨_, rfl⟩
                          obtain ⟨k4, hk4⟩ : ∃ b, (kd == 4) = b := ⟨_, rfl⟩
                          rw [hb3]
                          rw [← hV8] at hg8 ⊢
                          clear hV8 hb3
                          have hg48 := hg47.trans hg8
                          have sF8 := Nat.lt_of_lt_of_le sF7 hg8.size
                          have sT8 := Nat.lt_of_lt_of_le sT7 hg8.size
                          have HK4 := Lib.hid hk4
                          clear hk4
                          have u5 := ((hg48.same _ 5 sT4).trans ((free_of HBT.out).1 5))
                          simp only [List.getElem?_toArray, List.getElem?_cons_succ, List.getElem?_cons_zero] at u5
                          have U5 := Lib.hid u5
                          clear u5
                          go_wp2
                          go_loopw [13, 21] (fun bv jv w5 => ∃ j : Nat, j ≤ q4 ∧ jv = .int .i64 j ∧ bv = .bool (b3 || (k4 && (t.fks.take j).any (missB s db r.vals))) ∧ Grow V8 w5) (fun _ jv _ => q4 - (intOf jv).toNat)
                          case atStart => exact ⟨0, Nat.zero_le _, rfl, by simp, Grow.refl _⟩
                          case round =>
                            obtain ⟨j, hj, rfl, rfl, hg9⟩ := hrel
                            have x5 := (hg9.same _ 5 sT8).trans U5.out
                            have sT9 := Nat.lt_of_lt_of_le sT8 hg9.size
                            by_cases hltj : j < q4
                            · have j0 : (0 : Int) ≤ (j : Int) := Int.natCast_nonneg j
                              have j1 : (j : Int) < (q4 : Int) := Int.ofNat_lt.mpr hltj
                              have hg49 := hg48.trans hg9
                              obtain ⟨bU, oU, f, Au, Lu, Cu, rfl, hxf, _, hbU, hfs, z0, z1, _, _, _, su', _⟩ := fk_at (SF.out.grow hg49) hltj
                              have hfm := List.mem_of_getElem? hxf.out
                              obtain ⟨i1', i2', zo, tt, dto, hto, hdto, htat, _⟩ := fkIn_of HQ.out HTP.out hfm
                              have hLu : Lu ≤ 8 := by rw [← su'.1]; exact i2'
                              have htom : zo < m := by rw [← hsl.out]; exact (List.getElem?_eq_some_iff.mp hto).1
                              obtain ⟨wh, hwh⟩ : ∃ q, kKn f.cols r.vals = q := ⟨_, rfl⟩
                              obtain ⟨ks, hks⟩ : ∃ q, kOf f.cols r.vals = q := ⟨_, rfl⟩
                              obtain ⟨fs, hfs'⟩ : ∃ q, findV s db (zo : Int) tt.key ks = q := ⟨_, rfl⟩
                              have htab : tabAt s (zo : Int) = tt := by simp [tabAt, hto]
                              have HWH := Lib.hid hwh
                              have HKS := Lib.hid hks
                              have HFS := Lib.hid hfs'
                              have HTAT := Lib.hid htat
                              have HTO := Lib.hid hto
                              have HST : Hid ((b3 || (k4 && (t.fks.take (j + 1)).any (missB s db r.vals))) = ((b3 || (k4 && (t.fks.take j).any (missB s db r.vals))) || (k4 && (wh && decide (fs.length = 0))))) := Lib.hid (by
                                rw [any_take' _ hxf.out]
                                have : missB s db r.vals f = (wh && decide (fs.length = 0)) := by unfold missB; rw [hwh, hks, htat, htab, hfs']
                                rw [this]; cases b3 <;> cases k4 <;> simp)
                              obtain ⟨b, hb⟩ : ∃ b, (b3 || (k4 && (t.fks.take j).any (missB s db r.vals))) = b := ⟨_, rfl⟩
                              have HJ : Hid (j + 1 ≤ q4) := Lib.hid hltj
                              have HM : Hid (q4 - (j + 1) < q4 - j) := Lib.hid (by omega)
                              have SU' := Lib.hid su'
                              have to0 : (0 : Int) ≤ (zo : Int) := Int.natCast_nonneg zo
                              have to1 : (zo : Int) < (m : Int) := Int.ofNat_lt.mpr htom
                              rw [hb] at HST ⊢
                              clear hxf hb hwh hks hfs' su' hfm i1' i2' hto hdto htat htab
                              go_wp2_with fail
                              refine (iKeyOf_f HWH.out HKS.out _ SU'.out (SV.out.grow hg49) (Nat.le_trans hLu (by decide))).mono ?_
                              rintro e wK ⟨AK, lK, cK, rfl, tK, gK⟩
                              have g4K := hg49.trans gK
                              have x5' := (gK.same _ _ sT9).trans x5
                              have sTK := Nat.lt_of_lt_of_le sT9 gK.size
                              have z1' := (gK.same _ _ hbU).trans z1
                              have hbK := Nat.lt_of_lt_of_le hbU gK.size
                              have TK := Lib.hid tK.fresh
                              clear x5 z0 z1 tK
                              go_wp2_with fail
                              refine (iTableAt_f HTAT.out _ (hS4.out.grow g4K)).mono ?_
                              rintro e wL ⟨rfl, gL⟩
                              have g4L := g4K.trans gL
                              have gKL := hg9.trans (gK.trans gL)
                              have x0 := ((hg8.trans gKL).same _ 0 sF7).trans U0.out
                              have sFL := Nat.lt_of_lt_of_le sF7 (hg8.trans gKL).size
                              obtain ⟨bS, oS, tt', S0, s0, r0, S1, s1, r1, S2, s2, r2, S3, s3, r3, S4, s4, r4, hAS, hxS, _, hbS, _, _, _, y2, _, _, _, _, sk', _, _, _, _⟩ := table_at (hS4.out.grow g4L) htom
                              obtain ⟨rfl, rfl⟩ : bS = bT ∧ oS = oT := by
                                simp only [Option.some.injEq, Addr.mk.injEq, and_true] at hAS
                                exact ⟨hAS.1.symm, hAS.2.symm⟩
                              obtain rfl : tt = tt' := Option.some.inj (HTO.out.symm.trans hxS.out)
                              have SK' := Lib.hid sk'
                              have sKd := Lib.hid (hS4.out.grow g4L)
                              have dKd := Lib.hid (hD4.out.grow g4L)
                              clear x5' z1' hxS sk'
                              have hcur := Grow.refl wL
                              cases b with
                              | true =>
                                go_wp2
                                go_roundw
                                case rel => exact ⟨j + 1, HJ.out, by go_num, by rw [HST.out]; rfl, gKL⟩
                                case measure => exact HM.out
                              | false =>
                                have hk4 := HK4.out
                                cases k4 with
                                | false =>
                                  go_wp2
                                  go_roundw
                                  case rel => exact ⟨j + 1, HJ.out, by go_num, by rw [HST.out]; rfl, gKL⟩
                                  case measure => exact HM.out
                                | true =>
                                  cases wh with
                                  | false =>
                                    go_wp2
                                    go_roundw
                                    case rel => exact ⟨j + 1, HJ.out, by go_num, by rw [HST.out]; rfl, gKL⟩
                                    case measure => exact HM.out
                                  | true =>
                                    go_wp2_with fail
                                    refine (iFindRows_f (zo : Int) HFS.out _ sKd.out dKd.out SK'.out (TK.out.grow gL)).mono ?_
                                    rintro e wY ⟨AY, lY, cY, rfl, tY, gY⟩
                                    have hlY : decide (fs.length = 0) = ((lY : Int) == 0) := by rw [tY.1, Bool.eq_iff_iff, decide_eq_true_eq, beq_iff_eq]; omega
                                    have HLY := Lib.hid hlY
                                    clear hlY tY
                                    go_wp2
                                    go_roundw
                                    case rel => exact ⟨j + 1, HJ.out, by go_num, by rw [HST.out, HLY.out]; rfl, gKL.trans gY⟩
                                    case measure => exact HM.out
                            · obtain rfl : j = q4 := by omega
                              have hall : (b3 || (k4 && (t.fks.take j).any (missB s db r.vals))) = true := by
                                have hB := HBAD.out
                                unfold badB at hB
                                have e1 : t.fks.take j = t.fks := List.take_of_length_le (by rw [SF.out.1]; exact Nat.le_refl _)
                                have e2 : us.take us.length = us := List.take_of_length_le (Nat.le_refl _)
                                have h3 := HB3.out
                                rw [← hul.out, e2, HUS.out, ← HB2.out, ← HB1.out] at h3
                                rw [e1, ← h3]
                                rw [HK1.out, HK2.out, HK3.out, HK4.out] at hB
                                simpa [Bool.or_assoc] using hB
                              rw [hall]
                              clear hall
                              go_wp2
                              go_roundw
                              case rel => exact ⟨i + 1, by omega, by go_num, G4.out.trans (hg48.trans hg9)⟩
                              case measure => simp [intOf]; omega
      · go_wp2_with fail
        refine (iSound_f HSB.out _ (hs3.grow hg) (hd3.grow hg)).mono ?_
        rintro e wz ⟨rfl, gz⟩
        go_wp2
        go_ret
        exact ⟨rfl, G3.trans (hg.trans gz)⟩
end Go.Proofs.YtboichhelfahlaaGreat
