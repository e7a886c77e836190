import Derived.Test.YtjeilgogjoidjaaGreatRunS
import Derived.Test.YtjeilgogjoidjaaGreatApp
import Derived.Deep.DeepCutAuto
import Derived.Deep.CutBlock
/-! Evaluation, as the reference does it: the run over a stack. -/
namespace Go.Proofs.YtjeilgogjoidjaaGreat
open Go.RowKit
set_option linter.unusedVariables false
set_option linter.unusedSimpArgs false
theorem isTokB_kind {x : Tok} {n : Int} (h : isTokB x n = true) : x.kind = 1 ∨ x.kind = 2 ∨ x.kind = 8 ∨ x.kind = 7 ∨ (x.kind = 3 ∨ x.kind = 4 ∨ x.kind = 5 ∨ x.kind = 6 ∨ x.kind = 9 ∨ x.kind = 10) := by
  unfold isTokB at h
  split at h
  · omega
  · split at h
    · omega
    · simp [inB] at h; omega
/-- What the switch leaves: the value in block g, or that there is none. -/
def StepRes (wr wx : World) (g : Nat) (o : Option Val) (d : Nat) (ok dr : Value) : Prop :=
  ∃ u : Val, Grow wr wx ∧ wx.heap[g]? = some (.cells #[.int .i64 u.kind, .int .i64 u.n, .string u.s] 50 (0, 0)) ∧
    ((o = some u ∧ ok = .bool true ∧ dr = .int .i64 d) ∨ (o = none ∧ ok = .bool false))
theorem step_put {wr V : World} {g : Nat} {z0 z1 z2 : Value} {T : TypeId} (hg : Grow wr V) (h : V.heap[g]? = some (.cells #[z0, z1, z2] T (0, 0))) (hB : wr.heap.size ≤ g) (a b s : Value) :
    Grow wr (((V.setCell ⟨g, 0, none⟩ a).setCell ⟨g, 1, none⟩ b).setCell ⟨g, 2, none⟩ s) ∧ (((V.setCell ⟨g, 0, none⟩ a).setCell ⟨g, 1, none⟩ b).setCell ⟨g, 2, none⟩ s).heap[g]? = some (.cells #[a, b, s] T (0, 0)) :=
  ⟨setL_grow hg hB 0 [a, b, s], setL_own h 0 [a, b, s]⟩
theorem stepRes_some {wr V : World} {g : Nat} {z0 z1 z2 : Value} {o : Option Val} {d : Nat} (u : Val) (hg : Grow wr V) (h : V.heap[g]? = some (.cells #[z0, z1, z2] 50 (0, 0))) (hB : wr.heap.size ≤ g) (ho : o = some u) :
    StepRes wr (((V.setCell ⟨g, 0, none⟩ (.int .i64 u.kind)).setCell ⟨g, 1, none⟩ (.int .i64 u.n)).setCell ⟨g, 2, none⟩ (.string u.s)) g o d (.bool true) (.int .i64 d) :=
  ⟨u, (step_put hg h hB _ _ _).1, (step_put hg h hB _ _ _).2, .inl ⟨ho, rfl, rfl⟩⟩
theorem stepRes_none {wr V : World} {g : Nat} {z0 z1 z2 dr : Value} {o : Option Val} {d : Nat} (k n : Int) (s : ByteArray) (hg : Grow wr V) (h : V.heap[g]? = some (.cells #[z0, z1, z2] 50 (0, 0))) (hB : wr.heap.size ≤ g) (ho : o = none) :
    StepRes wr (((V.setCell ⟨g, 0, none⟩ (.int .i64 k)).setCell ⟨g, 1, none⟩ (.int .i64 n)).setCell ⟨g, 2, none⟩ (.string s)) g o d (.bool false) dr :=
  ⟨⟨k, n, s⟩, (step_put hg h hB _ _ _).1, (step_put hg h hB _ _ _).2, .inr ⟨ho, rfl⟩⟩
theorem evRel_next {W w' : World} {la lb : Nat} {e : List Tok} {row : List Val} {k n f c : Nat} {A : Option Addr} {xs st : List Val} (own : OwnF Kd.val 50 W w' A n c xs) (hn : n = f + 1) (hx : xs = st) (hk : k + 1 ≤ la) (hl : f + 1 ≤ k + 1)
    (hr : runV row (e.take (k + 1)) = some st) (hx2 : exprRun lb (e.take (k + 1)) = some (st.length : Int)) (hok : ∀ v ∈ st, okB v = true) : evRel W la lb e row (.slice A n c) (.int .i64 ((k + 1 : Nat) : Int)) w' := by
  subst hn hx
  obtain ⟨p, rfl⟩ := own.there (by omega)
  obtain ⟨rows, q1, q2, q3, q4⟩ := own
  exact ⟨k + 1, xs, p, f + 1, c, rows, hk, hl, rfl, rfl, q1, q2, q3, hr, hx2, hok, q4⟩
theorem l2Two_some (kind : Int) (a b : Val) (w : World) {u : Val} (hu : two kind a b = some u) (ha : okB a = true) (hb : okB b = true) (hk : kind = 3 ∨ kind = 4 ∨ kind = 5 ∨ kind = 6 ∨ kind = 9 ∨ kind = 10) :
    Calls Tryz.prog 180 #[.int .i64 kind, .agg #[.int .i64 a.kind, .int .i64 a.n, .string a.s], .agg #[.int .i64 b.kind, .int .i64 b.n, .string b.s]] w (Ret w (.tuple #[.agg #[.int .i64 u.kind, .int .i64 u.n, .string u.s], .bool true])) :=
  (l2Two_any kind a b w ha hb hk).mono fun e w' hv => by rw [hu] at hv; exact hv
theorem l2Two_none (kind : Int) (a b : Val) (w : World) (hu : two kind a b = none) (ha : okB a = true) (hb : okB b = true) (hk : kind = 3 ∨ kind = 4 ∨ kind = 5 ∨ kind = 6 ∨ kind = 9 ∨ kind = 10) :
    Calls Tryz.prog 180 #[.int .i64 kind, .agg #[.int .i64 a.kind, .int .i64 a.n, .string a.s], .agg #[.int .i64 b.kind, .int .i64 b.n, .string b.s]] w (fun e w' => ∃ k n s, Ret w (.tuple #[.agg #[.int .i64 k, .int .i64 n, .string s], .bool false]) e w') :=
  (l2Two_any kind a b w ha hb hk).mono fun e w' hv => by rw [hu] at hv; obtain ⟨⟨k, n, s, he⟩, hg⟩ := hv; exact ⟨k, n, s, he, hg⟩
set_option maxHeartbeats 4000000 in
set_option maxRecDepth 20000 in
theorem l2Eval_any {A B : Option Addr} {la ca lb cb : Nat} {e : List Tok} {row : List Val} (w : World) (he : IsSl Kd.tok w (· < w.heap.size) A la ca e) (hr : IsSl Kd.val w (· < w.heap.size) B lb cb row)
    (ho : okVals row = true) (hxl : exprL lb e = true) : Calls Tryz.prog 164 #[.slice A la ca, .slice B lb cb] w (optE (evL e row) w) := by
  have hlen : la ≤ maxLen := Nat.le_trans he.2.1 he.2.2.1
  have hlen' : lb ≤ maxLen := Nat.le_trans hr.2.1 hr.2.2.1
  unfold maxLen at hlen hlen'
  have HE := Lib.hid he.1
  have HR := Lib.hid hr.1
  have hlb : (lb : Int) ≤ 16 := by simp [okVals, HR.out] at ho; omega
  have hx1 : exprRun lb e = some 1 := by simp [exprL] at hxl; exact hxl.1
  have HXL := Lib.hid hxl
  have HX1 := Lib.hid hx1
  have HO := Lib.hid ho
  have hl24 : la ≤ 24 := by simp [exprL, HE.out] at hxl; omega
  clear hxl hx1 ho
  go_enter Tryz.func164, Tryz.ntmps164
  go_wp2_with fail
  generalize hW : World.alloc w _ = W
  obtain ⟨hg, hs', k0⟩ := boxedB hW
  obtain ⟨k1, kf⟩ := free_of k0
  have hsz := Lib.hid (show W.heap.size = w.heap.size + 1 by rw [← hW]; simp)
  clear hW
  go_loopw [6, 7] (evRel W la lb e row) (fun _ i _ => la - (intOf i).toNat)
  case atStart =>
    exact ⟨0, [], _, 0, 0, [], Nat.zero_le _, Nat.le_refl _, rfl, rfl, ⟨rfl, .inr ⟨_, 0, #[], rfl, (by have := hsz.out; omega), (by rw [← hsz.out]; exact new_block _ _), Nat.le_refl _, by simp [maxLen], rfl, rfl⟩⟩, rfl, rfl, rfl, rfl, by simp, (Grow.refl _).alloc _⟩
  case round =>
    obtain ⟨k, st, p, l, c, rows, hk, hlk, hi, hs, hown, hf, hst, hrun, hxr, hok, hG⟩ := hrel
    subst hi hs
    obtain ⟨hlc, hcm⟩ : l ≤ c ∧ c ≤ maxLen := own_cap hown
    unfold maxLen at hcm
    by_cases hlt : k < la
    · obtain ⟨b, off, x, rfl, hx, _, hb, hxs, c0, c1, c2, c3, c4, hrd⟩ := tok_at (he.grow (hg.trans hG)) hlt
      obtain ⟨t0, t1⟩ := takesB_le x
      have ⟨hT, hle⟩ : isTokB x lb = true ∧ takesB x ≤ st.length := by
        obtain ⟨q, hq⟩ := exprRun_some HX1.out (k + 1)
        rw [exprRun_take hx.out, hxr.out, exprStep, Option.bind_some] at hq
        split at hq
        · assumption
        · cases hq
      have HA := Lib.hid (runV_take hx.out (row := row))
      obtain ⟨d, hd⟩ : ∃ d : Nat, takesB x = d := ⟨(takesB x).toNat, by omega⟩
      rw [hd] at hle t0 t1
      obtain ⟨f, hfd⟩ : ∃ f : Nat, l = f + d := ⟨l - d, by omega⟩
      have hfl : f ≤ l := by omega
      have HFD := Lib.hid hfd
      have HD := Lib.hid hd
      have HST := Lib.hid hst
      have i0 : (0 : Int) ≤ (k : Int) := Int.natCast_nonneg k
      have i1 : (k : Int) < (la : Int) := Int.ofNat_lt.mpr hlt
      clear hfd hd hst t0
      go_upto_block 2 with (fail)
      generalize hW2 : World.alloc wr _ = W2
      obtain ⟨gW2, sW2, m0⟩ := boxedB hW2
      obtain ⟨m1, mf⟩ := free_of m0
      clear hW2
      go_cut [10, 11] (fun ok dr wx => StepRes wr wx wr.heap.size (applyV x (st.drop f) row) d ok dr)
      case first =>
        have hkk := isTokB_kind hT
        obtain ⟨kind, col, tv⟩ := x
        dsimp only at hkk hxs c0 c1 c2 c3 c4 hrd ⊢
        have hc := gW2.same
        have hbW : b < W2.heap.size := Nat.lt_of_lt_of_le hb gW2.size
        rcases hkk with rfl | rfl | rfl | rfl | hkk
        · have hcol : 0 ≤ col ∧ col < lb := by simp [isTokB, inB] at hT; omega
          obtain ⟨cn, rfl⟩ := Int.eq_ofNat_of_zero_le hcol.1
          have hcn : cn < lb := by omega
          obtain ⟨b2, off2, y, rfl, hy, _, hb2, zy, d0, d1, d2⟩ := val_at (hr.grow (hg.trans (hG.trans gW2))) hcn
          obtain rfl : d = 0 := by have := HD.out; simp [takesB] at this; omega
          have ha := Lib.hid (show applyV ⟨1, (cn : Int), tv⟩ (st.drop f) row = some ⟨y.kind, y.n, y.s⟩ by simp [applyV, hy.out])
          have hcol0 := hcol.1
          have hcol1 := hcol.2
          clear hT hcol
          go_wp2_with fail
          go_meet
          exact stepRes_some ⟨y.kind, y.n, y.s⟩ gW2 m0 (Nat.le_refl _) ha.out
        · obtain rfl : d = 0 := by have := HD.out; simp [takesB] at this; omega
          have ha := Lib.hid (show applyV ⟨2, col, tv⟩ (st.drop f) row = some ⟨tv.kind, tv.n, tv.s⟩ by simp [applyV])
          clear hT
          go_wp2_with fail
          go_meet
          exact stepRes_some ⟨tv.kind, tv.n, tv.s⟩ gW2 m0 (Nat.le_refl _) ha.out
        · obtain rfl : d = 1 := by have := HD.out; simp [takesB] at this; omega
          have hl1 : f < l := by have := HFD.out; omega
          obtain ⟨b2, off2, y, hA2, hy, _, hb2, zy, d0, d1, d2⟩ := val_at ((own_isSl (S' := (· < wr.heap.size)) hown hf HST.out (fun _ h => h.elim) (fun _ _ h _ => h)).grow gW2) hl1
          simp only [Option.some.injEq, Addr.mk.injEq, and_true] at hA2
          obtain ⟨rfl, rfl⟩ := hA2
          simp only [Nat.zero_add] at d0 d1 d2
          have hw2 : (l : Int) - 1 = f := by have := HFD.out; omega
          have hw : wrap64 ((l : Int) - 1) = (f : Int) := by unfold wrap64; omega
          have j0 : (0 : Int) ≤ f := Int.natCast_nonneg f
          have j1 : (f : Int) < l := Int.ofNat_lt.mpr hl1
          have ha := Lib.hid (show applyV ⟨8, col, tv⟩ (st.drop f) row = some ⟨1, if y.kind == 0 then 1 else 0, ⟨#[]⟩⟩ by simp [applyV, hy.out, vInt])
          have hcur := Grow.refl W2
          have hcf := hcur.sameF
          clear hT hc
          have hc := gW2.same
          go_wp2_with (first | (go_at_call 177; (with_reducible refine (l1Yes_any _ _).mono ?_); rintro e w1 ⟨rfl, rfl⟩) | (go_at_call 72; (with_reducible refine (l1IntV_any _ _).mono ?_); rintro e w1 ⟨rfl, hb1⟩; replace hcf := hb1.sameF; replace hc := hb1.same))
          all_goals go_meet
          all_goals exact stepRes_some (d := 1) ⟨1, _, ⟨#[]⟩⟩ (gW2.trans hb1) ((hb1.block sW2).trans m0) (Nat.le_refl _) (by rw [ha.out]; simp_all)
        · obtain rfl : d = 1 := by have := HD.out; simp [takesB] at this; omega
          have hl1 : f < l := by have := HFD.out; omega
          obtain ⟨b2, off2, y, hA2, hy, _, hb2, zy, d0, d1, d2⟩ := val_at ((own_isSl (S' := (· < wr.heap.size)) hown hf HST.out (fun _ h => h.elim) (fun _ _ h _ => h)).grow gW2) hl1
          simp only [Option.some.injEq, Addr.mk.injEq, and_true] at hA2
          obtain ⟨rfl, rfl⟩ := hA2
          simp only [Nat.zero_add] at d0 d1 d2
          have hw2 : (l : Int) - 1 = f := by have := HFD.out; omega
          have hw : wrap64 ((l : Int) - 1) = (f : Int) := by unfold wrap64; omega
          have j0 : (0 : Int) ≤ f := Int.natCast_nonneg f
          have j1 : (f : Int) < l := Int.ofNat_lt.mpr hl1
          have ha := Lib.hid (show applyV ⟨7, col, tv⟩ (st.drop f) row = if ofOk y then some (asV (not3 (ofT y))) else none by
            simp only [applyV, List.getElem?_drop, Nat.add_zero, hy.out, Option.bind_some]
            rw [truthV_of]
            cases ofOk y with
            | false => rfl
            | true => rcases ofT_in y with h | h | h <;> rw [h] <;> rfl)
          have hcur := Grow.refl W2
          have hcf := hcur.sameF
          clear hT hc
          have hc := hcur.same
          go_wp2_with (first | (go_at_call 165; (with_reducible refine (l2Of_any _ _ _ _).mono ?_); rintro e w1 ⟨rfl, hb⟩; replace hcur := hcur.trans hb; replace hc := hcur.same; replace hcf := hcur.sameF; clear hb) | (go_at_call 179; (with_reducible refine (sNot3_any _ _).mono ?_); rintro e w1 ⟨rfl, rfl⟩) | (go_at_call 178; (with_reducible refine (l2As_any _ _).mono ?_); rintro e w1 ⟨rfl, hb⟩; replace hcur := hcur.trans hb; replace hc := hcur.same; replace hcf := hcur.sameF; clear hb))
          go_meet
          have ha' := ha.out
          cases hok2 : ofOk y with
          | true =>
            rw [hok2, if_pos rfl] at ha'
            exact stepRes_some (d := 1) (asV (not3 (ofT y))) (gW2.trans hcur) ((hcur.block sW2).trans m0) (Nat.le_refl _) ha'
          | false =>
            rw [hok2, if_neg (by decide)] at ha'
            exact stepRes_none _ _ _ (gW2.trans hcur) ((hcur.block sW2).trans m0) (Nat.le_refl _) ha'
        · obtain rfl : d = 2 := by
            have := HD.out
            have hne : ¬ (kind = 1 ∨ kind = 2) := by omega
            have hne2 : ¬ (kind = 7 ∨ kind = 8) := by omega
            simp only [takesB, hne, hne2, if_false] at this
            omega
          have hl1 : f < l := by have := HFD.out; omega
          have hl2 : f + 1 < l := by have := HFD.out; omega
          have isl := (own_isSl (S' := (· < wr.heap.size)) hown hf HST.out (fun _ h => h.elim) (fun _ _ h _ => h))
          obtain ⟨b2, off2, y, hA2, hy, _, hb2, zy, d0, d1, d2⟩ := val_at isl hl1
          simp only [Option.some.injEq, Addr.mk.injEq, and_true] at hA2
          obtain ⟨rfl, rfl⟩ := hA2
          obtain ⟨b3, off3, z, hA3, hz, _, hb3, zz, g0, g1, g2⟩ := val_at isl hl2
          simp only [Option.some.injEq, Addr.mk.injEq, and_true] at hA3
          obtain ⟨rfl, rfl⟩ := hA3
          simp only [Nat.zero_add] at d0 d1 d2 g0 g1 g2
          have hoy : okB y = true := hok y (mem_of_at hy.out)
          have hoz : okB z = true := hok z (mem_of_at hz.out)
          have hw2 : (l : Int) - 2 = f := by have := HFD.out; omega
          have hw : wrap64 ((l : Int) - 2) = (f : Int) := by unfold wrap64; omega
          have hw4 : (l : Int) - 1 = ((f + 1 : Nat) : Int) := by have := HFD.out; omega
          have hw3 : wrap64 ((l : Int) - 1) = ((f + 1 : Nat) : Int) := by unfold wrap64; omega
          have j0 : (0 : Int) ≤ f := Int.natCast_nonneg f
          have j1 : (f : Int) < l := Int.ofNat_lt.mpr hl1
          have j2 : (f : Int) + 1 < l := by omega
          have j3 : (0 : Int) ≤ (f : Int) + 1 := by omega
          have ha := Lib.hid (show applyV ⟨kind, col, tv⟩ (st.drop f) row = two kind y z by
            have hne : ¬ kind = 1 := by omega
            have hne2 : ¬ kind = 2 := by omega
            have hne3 : ¬ kind = 7 := by omega
            have hne4 : ¬ kind = 8 := by omega
            simp only [applyV, hne, hne2, hne3, hne4, if_false, List.getElem?_drop, Nat.add_zero, hy.out, hz.out, Option.bind_some])
          have b1 : (kind == 1) = false := by simp; omega
          have b2' : (kind == 2) = false := by simp; omega
          have b3' : (kind == 7) = false := by simp; omega
          have b4 : (kind == 8) = false := by simp; omega
          have v1 : IntKind.i64.wrap (f : Int) = f := IntWalk.i64_in _ (by omega)
          have v2 : IntKind.i64.wrap ((f : Int) + 1) = (f : Int) + 1 := IntWalk.i64_in _ (by omega)
          clear hT
          cases hv : two kind y z with
          | some u =>
            have HV := Lib.hid hv
            have ha2 := Lib.hid (ha.out.trans hv)
            have HOY := Lib.hid hoy
            have HOZ := Lib.hid hoz
            clear hv ha hoy hoz
            go_upto_region 10 with (fail)
            refine wp_region_held_drew (S := (fun w' => Grow wr w' ∧ Same wr w')) (by kernel_rfl) (by exact Grow.both (by repeat (with_reducible first | exact Grow.refl _ | assumption | refine Grow.drew ?_ | refine Grow.alloc ?_ _ | refine Grow.set ?_ (by first | exact Nat.le_refl _ | (simp; done) | (simp; omega) | omega) _ | exact And.left (by assumption) | refine Grow.trans ?_ (by assumption)))) (fun hHeld => ?_)
            ((refine tk 0 30 rfl rfl (v := ?_) ?_ ?_; rotate_left 1; (focus (intro w hSw; (try dsimp only at hSw); go_simp; (try with_reducible rfl); done)); all_goals (try simp only [Act.put, List.setIfInBounds_toArray, List.set_cons_zero, List.set_cons_succ])); (refine tk 1 31 rfl rfl (v := ?_) ?_ ?_; rotate_left 1; (focus (intro w hSw; (try dsimp only at hSw); go_simp; (try with_reducible rfl); done)); all_goals (try simp only [Act.put, List.setIfInBounds_toArray, List.set_cons_zero, List.set_cons_succ])); (refine tk 2 32 rfl rfl (v := ?_) ?_ ?_; rotate_left 1; (focus (intro w hSw; (try dsimp only at hSw); go_simp; (try with_reducible rfl); done)); all_goals (try simp only [Act.put, List.setIfInBounds_toArray, List.set_cons_zero, List.set_cons_succ])); (refine tk 3 33 rfl rfl (v := ?_) ?_ ?_; rotate_left 1; (focus (intro w hSw; (try dsimp only at hSw); go_simp; (try with_reducible rfl); done)); all_goals (try simp only [Act.put, List.setIfInBounds_toArray, List.set_cons_zero, List.set_cons_succ])); (refine tk 4 34 rfl rfl (v := ?_) ?_ ?_; rotate_left 1; (focus (intro w hSw; (try dsimp only at hSw); go_simp; (try with_reducible rfl); done)); all_goals (try simp only [Act.put, List.setIfInBounds_toArray, List.set_cons_zero, List.set_cons_succ])); (refine tk 5 35 rfl rfl (v := ?_) ?_ ?_; rotate_left 1; (focus (intro w hSw; (try dsimp only at hSw); go_simp; (try with_reducible rfl); done)); all_goals (try simp only [Act.put, List.setIfInBounds_toArray, List.set_cons_zero, List.set_cons_succ])); (refine tk 6 36 rfl rfl (v := ?_) ?_ ?_; rotate_left 1; (focus (intro w hSw; (try dsimp only at hSw); go_simp; (try with_reducible rfl); done)); all_goals (try simp only [Act.put, List.setIfInBounds_toArray, List.set_cons_zero, List.set_cons_succ])); (refine tk 7 37 rfl rfl (v := ?_) ?_ ?_; rotate_left 1; (focus (intro w hSw; (try dsimp only at hSw); go_simp; (try with_reducible rfl); done)); all_goals (try simp only [Act.put, List.setIfInBounds_toArray, List.set_cons_zero, List.set_cons_succ])); (refine tk 8 38 rfl rfl (v := ?_) ?_ ?_; rotate_left 1; (focus (intro w hSw; (try dsimp only at hSw); go_simp; (try with_reducible rfl); done)); all_goals (try simp only [Act.put, List.setIfInBounds_toArray, List.set_cons_zero, List.set_cons_succ])); (refine tk 9 39 rfl rfl (v := ?_) ?_ ?_; rotate_left 1; (focus (intro w hSw; (try dsimp only at hSw); go_simp; (try with_reducible rfl); done)); all_goals (try simp only [Act.put, List.setIfInBounds_toArray, List.set_cons_zero, List.set_cons_succ])); (refine tk 10 40 rfl rfl (v := ?_) ?_ ?_; rotate_left 1; (focus (intro w hSw; (try dsimp only at hSw); go_simp; (try with_reducible rfl); done)); all_goals (try simp only [Act.put, List.setIfInBounds_toArray, List.set_cons_zero, List.set_cons_succ])); (refine tk 11 41 rfl rfl (v := ?_) ?_ ?_; rotate_left 1; (focus (intro w hSw; (try dsimp only at hSw); go_simp; (try with_reducible rfl); done)); all_goals (try simp only [Act.put, List.setIfInBounds_toArray, List.set_cons_zero, List.set_cons_succ])); (refine tk 12 42 rfl rfl (v := ?_) ?_ ?_; rotate_left 1; (focus (intro w hSw; (try dsimp only at hSw); go_simp; (try with_reducible rfl); done)); all_goals (try simp only [Act.put, List.setIfInBounds_toArray, List.set_cons_zero, List.set_cons_succ])); (refine tk 13 43 rfl rfl (v := ?_) ?_ ?_; rotate_left 1; (focus (intro w hSw; (try dsimp only at hSw); go_simp; (try with_reducible rfl); done)); all_goals (try simp only [Act.put, List.setIfInBounds_toArray, List.set_cons_zero, List.set_cons_succ])); (refine tk 14 44 rfl rfl (v := ?_) ?_ ?_; rotate_left 1; (focus (intro w hSw; (try dsimp only at hSw); go_simp; (try with_reducible rfl); done)); all_goals (try simp only [Act.put, List.setIfInBounds_toArray, List.set_cons_zero, List.set_cons_succ])))
            (refine wpAnyH_ready (rs := [15]) (by kernel_rfl) (by simp) ?_; refine AllReadyH.cons rfl (fun K hK => ?_) AllReadyH.nil; go_simp; (go_at_call 180; refine (l2Two_some kind y z _ HV.out HOY.out HOZ.out hkk).mono ?_; rintro e w3 ⟨rfl, hb⟩); refine hK.out _ _ (by exact Grow.both (by repeat (with_reducible first | exact Grow.refl _ | assumption | refine Grow.drew ?_ | refine Grow.alloc ?_ _ | refine Grow.set ?_ (by first | exact Nat.le_refl _ | (simp; done) | (simp; omega) | omega) _ | exact And.left (by assumption) | refine Grow.trans ?_ (by assumption)))) (fun hHeld => ?_); clear hK K; (try refine held_put 45 rfl ?_); (try simp only [Act.put, List.setIfInBounds_toArray, List.set_cons_zero, List.set_cons_succ]))
            have gX : Grow W2 w3 := (Grow.refl W2).drew.trans hb
            obtain ⟨q1, qf⟩ := free_of ((gX.block sW2).trans m0)
            ((refine tk 16 29 rfl rfl (v := ?_) ?_ ?_; rotate_left 1; (focus (intro w hSw; (try dsimp only at hSw); go_simp; (try with_reducible rfl); done)); all_goals (try simp only [Act.put, List.setIfInBounds_toArray, List.set_cons_zero, List.set_cons_succ])))
            ((refine tk 17 46 rfl rfl (v := ?_) ?_ ?_; rotate_left 1; (focus (intro w hSw; (try dsimp only at hSw); go_simp; (try with_reducible rfl); done)); all_goals (try simp only [Act.put, List.setIfInBounds_toArray, List.set_cons_zero, List.set_cons_succ])); (refine tk 18 47 rfl rfl (v := ?_) ?_ ?_; rotate_left 1; (focus (intro w hSw; (try dsimp only at hSw); go_simp; (try with_reducible rfl); done)); all_goals (try simp only [Act.put, List.setIfInBounds_toArray, List.set_cons_zero, List.set_cons_succ])))
            (refine wpAnyH_ready (rs := [19]) (by kernel_rfl) (by simp) ?_; refine AllReadyH.cons rfl (fun K hK => ?_) AllReadyH.nil; go_simp; refine hK.out _ _ (by exact Grow.both (by repeat (with_reducible first | exact Grow.refl _ | assumption | refine Grow.drew ?_ | refine Grow.alloc ?_ _ | refine Grow.set ?_ (by first | exact Nat.le_refl _ | (simp; done) | (simp; omega) | omega) _ | exact And.left (by assumption) | refine Grow.trans ?_ (by assumption)))) (fun hHeld => ?_); clear hK K; (try simp only [Act.put, List.setIfInBounds_toArray, List.set_cons_zero, List.set_cons_succ]))
            ((refine tk 20 10 rfl rfl (v := ?_) ?_ ?_; rotate_left 1; (focus (intro w hSw; (try dsimp only at hSw); go_simp; (try with_reducible rfl); done)); all_goals (try simp only [Act.put, List.setIfInBounds_toArray, List.set_cons_zero, List.set_cons_succ])))
            refine wpAnyH_done (by kernel_rfl) ?_ _
            go_wp2_with fail
            go_meet
            exact stepRes_some (d := 2) u (gW2.trans gX) ((gX.block sW2).trans m0) (Nat.le_refl _) ha2.out
          | none =>
            have HV := Lib.hid hv
            have ha2 := Lib.hid (ha.out.trans hv)
            have HOY := Lib.hid hoy
            have HOZ := Lib.hid hoz
            clear hv ha hoy hoz
            go_upto_region 10 with (fail)
            refine wp_region_held_drew (S := (fun w' => Grow wr w' ∧ Same wr w')) (by kernel_rfl) (by exact Grow.both (by repeat (with_reducible first | exact Grow.refl _ | assumption | refine Grow.drew ?_ | refine Grow.alloc ?_ _ | refine Grow.set ?_ (by first | exact Nat.le_refl _ | (simp; done) | (simp; omega) | omega) _ | exact And.left (by assumption) | refine Grow.trans ?_ (by assumption)))) (fun hHeld => ?_)
            ((refine tk 0 30 rfl rfl (v := ?_) ?_ ?_; rotate_left 1; (focus (intro w hSw; (try dsimp only at hSw); go_simp; (try with_reducible rfl); done)); all_goals (try simp only [Act.put, List.setIfInBounds_toArray, List.set_cons_zero, List.set_cons_succ])); (refine tk 1 31 rfl rfl (v := ?_) ?_ ?_; rotate_left 1; (focus (intro w hSw; (try dsimp only at hSw); go_simp; (try with_reducible rfl); done)); all_goals (try simp only [Act.put, List.setIfInBounds_toArray, List.set_cons_zero, List.set_cons_succ])); (refine tk 2 32 rfl rfl (v := ?_) ?_ ?_; rotate_left 1; (focus (intro w hSw; (try dsimp only at hSw); go_simp; (try with_reducible rfl); done)); all_goals (try simp only [Act.put, List.setIfInBounds_toArray, List.set_cons_zero, List.set_cons_succ])); (refine tk 3 33 rfl rfl (v := ?_) ?_ ?_; rotate_left 1; (focus (intro w hSw; (try dsimp only at hSw); go_simp; (try with_reducible rfl); done)); all_goals (try simp only [Act.put, List.setIfInBounds_toArray, List.set_cons_zero, List.set_cons_succ])); (refine tk 4 34 rfl rfl (v := ?_) ?_ ?_; rotate_left 1; (focus (intro w hSw; (try dsimp only at hSw); go_simp; (try with_reducible rfl); done)); all_goals (try simp only [Act.put, List.setIfInBounds_toArray, List.set_cons_zero, List.set_cons_succ])); (refine tk 5 35 rfl rfl (v := ?_) ?_ ?_; rotate_left 1; (focus (intro w hSw; (try dsimp only at hSw); go_simp; (try with_reducible rfl); done)); all_goals (try simp only [Act.put, List.setIfInBounds_toArray, List.set_cons_zero, List.set_cons_succ])); (refine tk 6 36 rfl rfl (v := ?_) ?_ ?_; rotate_left 1; (focus (intro w hSw; (try dsimp only at hSw); go_simp; (try with_reducible rfl); done)); all_goals (try simp only [Act.put, List.setIfInBounds_toArray, List.set_cons_zero, List.set_cons_succ])); (refine tk 7 37 rfl rfl (v := ?_) ?_ ?_; rotate_left 1; (focus (intro w hSw; (try dsimp only at hSw); go_simp; (try with_reducible rfl); done)); all_goals (try simp only [Act.put, List.setIfInBounds_toArray, List.set_cons_zero, List.set_cons_succ])); (refine tk 8 38 rfl rfl (v := ?_) ?_ ?_; rotate_left 1; (focus (intro w hSw; (try dsimp only at hSw); go_simp; (try with_reducible rfl); done)); all_goals (try simp only [Act.put, List.setIfInBounds_toArray, List.set_cons_zero, List.set_cons_succ])); (refine tk 9 39 rfl rfl (v := ?_) ?_ ?_; rotate_left 1; (focus (intro w hSw; (try dsimp only at hSw); go_simp; (try with_reducible rfl); done)); all_goals (try simp only [Act.put, List.setIfInBounds_toArray, List.set_cons_zero, List.set_cons_succ])); (refine tk 10 40 rfl rfl (v := ?_) ?_ ?_; rotate_left 1; (focus (intro w hSw; (try dsimp only at hSw); go_simp; (try with_reducible rfl); done)); all_goals (try simp only [Act.put, List.setIfInBounds_toArray, List.set_cons_zero, List.set_cons_succ])); (refine tk 11 41 rfl rfl (v := ?_) ?_ ?_; rotate_left 1; (focus (intro w hSw; (try dsimp only at hSw); go_simp; (try with_reducible rfl); done)); all_goals (try simp only [Act.put, List.setIfInBounds_toArray, List.set_cons_zero, List.set_cons_succ])); (refine tk 12 42 rfl rfl (v := ?_) ?_ ?_; rotate_left 1; (focus (intro w hSw; (try dsimp only at hSw); go_simp; (try with_reducible rfl); done)); all_goals (try simp only [Act.put, List.setIfInBounds_toArray, List.set_cons_zero, List.set_cons_succ])); (refine tk 13 43 rfl rfl (v := ?_) ?_ ?_; rotate_left 1; (focus (intro w hSw; (try dsimp only at hSw); go_simp; (try with_reducible rfl); done)); all_goals (try simp only [Act.put, List.setIfInBounds_toArray, List.set_cons_zero, List.set_cons_succ])); (refine tk 14 44 rfl rfl (v := ?_) ?_ ?_; rotate_left 1; (focus (intro w hSw; (try dsimp only at hSw); go_simp; (try with_reducible rfl); done)); all_goals (try simp only [Act.put, List.setIfInBounds_toArray, List.set_cons_zero, List.set_cons_succ])))
            (refine wpAnyH_ready (rs := [15]) (by kernel_rfl) (by simp) ?_; refine AllReadyH.cons rfl (fun K hK => ?_) AllReadyH.nil; go_simp; (go_at_call 180; refine (l2Two_none kind y z _ HV.out HOY.out HOZ.out hkk).mono ?_; rintro e w3 ⟨k3, n3, s3, rfl, hb⟩); refine hK.out _ _ (by exact Grow.both (by repeat (with_reducible first | exact Grow.refl _ | assumption | refine Grow.drew ?_ | refine Grow.alloc ?_ _ | refine Grow.set ?_ (by first | exact Nat.le_refl _ | (simp; done) | (simp; omega) | omega) _ | exact And.left (by assumption) | refine Grow.trans ?_ (by assumption)))) (fun hHeld => ?_); clear hK K; (try refine held_put 45 rfl ?_); (try simp only [Act.put, List.setIfInBounds_toArray, List.set_cons_zero, List.set_cons_succ]))
            have gX : Grow W2 w3 := (Grow.refl W2).drew.trans hb
            obtain ⟨q1, qf⟩ := free_of ((gX.block sW2).trans m0)
            ((refine tk 16 29 rfl rfl (v := ?_) ?_ ?_; rotate_left 1; (focus (intro w hSw; (try dsimp only at hSw); go_simp; (try with_reducible rfl); done)); all_goals (try simp only [Act.put, List.setIfInBounds_toArray, List.set_cons_zero, List.set_cons_succ])))
            ((refine tk 17 46 rfl rfl (v := ?_) ?_ ?_; rotate_left 1; (focus (intro w hSw; (try dsimp only at hSw); go_simp; (try with_reducible rfl); done)); all_goals (try simp only [Act.put, List.setIfInBounds_toArray, List.set_cons_zero, List.set_cons_succ])); (refine tk 18 47 rfl rfl (v := ?_) ?_ ?_; rotate_left 1; (focus (intro w hSw; (try dsimp only at hSw); go_simp; (try with_reducible rfl); done)); all_goals (try simp only [Act.put, List.setIfInBounds_toArray, List.set_cons_zero, List.set_cons_succ])))
            (refine wpAnyH_ready (rs := [19]) (by kernel_rfl) (by simp) ?_; refine AllReadyH.cons rfl (fun K hK => ?_) AllReadyH.nil; go_simp; refine hK.out _ _ (by exact Grow.both (by repeat (with_reducible first | exact Grow.refl _ | assumption | refine Grow.drew ?_ | refine Grow.alloc ?_ _ | refine Grow.set ?_ (by first | exact Nat.le_refl _ | (simp; done) | (simp; omega) | omega) _ | exact And.left (by assumption) | refine Grow.trans ?_ (by assumption)))) (fun hHeld => ?_); clear hK K; (try simp only [Act.put, List.setIfInBounds_toArray, List.set_cons_zero, List.set_cons_succ]))
            ((refine tk 20 10 rfl rfl (v := ?_) ?_ ?_; rotate_left 1; (focus (intro w hSw; (try dsimp only at hSw); go_simp; (try with_reducible rfl); done)); all_goals (try simp only [Act.put, List.setIfInBounds_toArray, List.set_cons_zero, List.set_cons_succ])))
            refine wpAnyH_done (by kernel_rfl) ?_ _
            go_wp2_with fail
            go_meet
            exact stepRes_none k3 n3 s3 (gW2.trans gX) ((gX.block sW2).trans m0) (Nat.le_refl _) ha2.out
      case rest =>
        obtain ⟨u, gC, mC, hC⟩ := hcut
        have gWC := hG.trans gC
        have hcW := gWC.same
        have hfW := gWC.sameF
        rcases hC with ⟨ho2, rfl, rfl⟩ | ⟨ho2, rfl⟩
        · have HO2 := Lib.hid ho2
          clear ho2
          go_wp2_with fail
          have hlen2 : (st.take f).length = f := by rw [List.length_take, HST.out]; omega
          have huok : okB u = true := applyV_ok (by have := hT; rw [← HR.out] at this; exact this) (fun y hy => by have := HO.out; simp [okVals] at this; exact this.1 y hy) HO2.out
          have hus := okB_size huok
          have HR2 := Lib.hid (show runV row (e.take (k + 1)) = some (st.take f ++ [u]) by rw [HA.out, hrun.out, stepV, Option.bind_some, HST.out, HD.out, Int.toNat_natCast, show l - d = f by have := HFD.out; omega, HO2.out]; rfl)
          have HX2 := Lib.hid (show exprRun lb (e.take (k + 1)) = some ((st.take f ++ [u]).length : Int) by
            rw [exprRun_take hx.out, hxr.out, exprStep, Option.bind_some, if_pos ⟨hT, by rw [HD.out]; exact hle⟩, HST.out, HD.out, List.length_append, hlen2]; have := HFD.out; simp; omega)
          have HOK2 := Lib.hid (show ∀ v ∈ st.take f ++ [u], okB v = true from fun v hv' => by
            rcases List.mem_append.mp hv' with h | h
            · exact hok v (List.mem_of_mem_take h)
            · simp at h; subst h
              exact huok)
          have own0 : OwnF Kd.val 50 W wr (some ⟨p, 0, none⟩) l c st := ⟨rows, hown, hf, HST.out, hG⟩
          have isl := (own0.take hfl).isSl.fresh.grow gC
          obtain ⟨kC, fC⟩ := free_of mC
          have sC : wr.heap.size < wc.heap.size := by
            rcases Nat.lt_or_ge wr.heap.size wc.heap.size with h' | h'
            · exact h'
            · simp [Array.getElem?_eq_none h'] at mC
          have hw2 : (l : Int) - d = f := by have := HFD.out; omega
          have hw : IntKind.i64.wrap ((l : Int) - d) = (f : Int) := by rw [hw2]; exact IntWalk.i64_in _ (by omega)
          have v1 : IntKind.i64.wrap (f : Int) = f := IntWalk.i64_in _ (by omega)
          have j0 : (0 : Int) ≤ f := Int.natCast_nonneg f
          have j1 : (f : Int) ≤ l := Int.ofNat_le.mpr hfl
          have j2 : (l : Int) ≤ c := Int.ofNat_le.mpr hlc
          have j3 : (f : Int) ≤ c := by omega
          have hf24 : f ≤ 24 := by omega
          clear huok
          have gcc := Grow.refl wc
          refine wp_region_held_drew (S := (fun w' => Grow wc w' ∧ Same wc w')) (by kernel_rfl) (by exact Grow.both (by repeat (with_reducible first | exact Grow.refl _ | assumption | refine Grow.drew ?_ | refine Grow.alloc ?_ _ | refine Grow.set ?_ (by first | exact Nat.le_refl _ | (simp; done) | (simp; omega) | omega) _ | exact And.left (by assumption) | refine Grow.trans ?_ (by assumption)))) (fun hHeld => ?_)
          ((refine tk 1 95 rfl rfl (v := ?_) ?_ ?_; rotate_left 1; (focus (intro w hSw; (try dsimp only at hSw); go_simp; (try with_reducible rfl); done)); all_goals (try simp only [Act.put, List.setIfInBounds_toArray, List.set_cons_zero, List.set_cons_succ])); (refine tk 2 96 rfl rfl (v := ?_) ?_ ?_; rotate_left 1; (focus (intro w hSw; (try dsimp only at hSw); go_simp; (try with_reducible rfl); done)); all_goals (try simp only [Act.put, List.setIfInBounds_toArray, List.set_cons_zero, List.set_cons_succ])); (refine tk 3 97 rfl rfl (v := ?_) ?_ ?_; rotate_left 1; (focus (intro w hSw; (try dsimp only at hSw); go_simp; (try with_reducible rfl); done)); all_goals (try simp only [Act.put, List.setIfInBounds_toArray, List.set_cons_zero, List.set_cons_succ])); (refine tk 4 98 rfl rfl (v := ?_) ?_ ?_; rotate_left 1; (focus (intro w hSw; (try dsimp only at hSw); go_simp; (try with_reducible rfl); done)); all_goals (try simp only [Act.put, List.setIfInBounds_toArray, List.set_cons_zero, List.set_cons_succ])); (refine tk 5 99 rfl rfl (v := ?_) ?_ ?_; rotate_left 1; (focus (intro w hSw; (try dsimp only at hSw); go_simp; (try with_reducible rfl); done)); all_goals (try simp only [Act.put, List.setIfInBounds_toArray, List.set_cons_zero, List.set_cons_succ])); (refine tk 7 101 rfl rfl (v := ?_) ?_ ?_; rotate_left 1; (focus (intro w hSw; (try dsimp only at hSw); go_simp; (try with_reducible rfl); done)); all_goals (try simp only [Act.put, List.setIfInBounds_toArray, List.set_cons_zero, List.set_cons_succ])))
          refine wpAnyH_ready (rs := [0, 8]) (by kernel_rfl) (by simp) ?_
          refine AllReadyH.cons rfl (fun K hK => ?_) (AllReadyH.cons rfl (fun K hK => ?_) AllReadyH.nil)
          · go_simp
            refine hK.out _ _ (Grow.both (by first | exact (gcc.alloc _).drew | exact gcc.alloc _)) (fun hHeld => ?_)
            clear hK K
            (try simp only [Act.put, List.setIfInBounds_toArray, List.set_cons_zero, List.set_cons_succ])
            generalize hV : World.drew (World.alloc wc _) = V1
            have g1 : Grow wc V1 := by rw [← hV]; first | exact ((Grow.refl _).alloc _).drew | exact (Grow.refl _).alloc _
            have szV1 : wc.heap.size < V1.heap.size := by rw [← hV]; simp
            have OWN0 : OwnF Kd.val 50 wc V1 (some ⟨wc.heap.size, 0, none⟩) 0 0 [] := by rw [← hV]; first | exact (OwnF.made gcc).grow (Grow.refl _).drew | exact OwnF.made gcc
            clear hV
            refine wpAnyH_ready (rs := [6, 8]) (by kernel_rfl) (by simp) ?_
            refine AllReadyH.cons rfl (fun K hK => ?_) (AllReadyH.cons rfl (fun K hK => ?_) AllReadyH.nil)
            · refine step_app plain_val ones_val elem_val (by rfl) (.tmp 94) (.tmp 99) (by rfl) (by rfl) OWN0 (by rfl) (isl.grow g1) (q := f) (by omega) (by unfold maxLen; omega) (by omega) (fun A2 c2 w2 ap2 => ?_)
              have Gw2 := ap2.grown wc g1 OWN0.baseB
              refine hK.out _ _ (Grow.both Gw2) (fun hHeld => ?_)
              clear hK K
              (try simp only [Act.put, List.setIfInBounds_toArray, List.set_cons_zero, List.set_cons_succ])
              refine wpAnyH_ready (rs := [8]) (by kernel_rfl) (by simp) ?_
              refine AllReadyH.cons rfl (fun K hK => ?_) AllReadyH.nil
              go_simp
              refine hK.out _ _ (Grow.both (by first | exact (Gw2.alloc _).drew | exact Gw2.alloc _)) (fun hHeld => ?_)
              clear hK K
              (try simp only [Act.put, List.setIfInBounds_toArray, List.set_cons_zero, List.set_cons_succ])
              generalize hV : World.alloc w2 _ = V3
              have g3 : Grow w2 V3 := by rw [← hV]; first | exact ((Grow.refl _).alloc _).drew | exact (Grow.refl _).alloc _
              have szV3 : w2.heap.size < V3.heap.size := by rw [← hV]; simp
              have BLK : V3.heap[w2.heap.size]? = some (.cells #[.int .i64 u.kind, .int .i64 u.n, .string u.s] 50 (0, 0)) := by rw [← hV]; exact new_block _ _
              clear hV
              refine wpAnyH_ready (rs := [9]) (by kernel_rfl) (by simp) ?_
              refine AllReadyH.cons rfl (fun K hK => ?_) AllReadyH.nil
              refine step_app plain_val ones_val elem_val (by rfl) (.tmp 100) (.tmp 102) (by rfl) (by rfl) (ap2.own.grow g3) (by rfl) (isSl_one (by decide) BLK ⟨rfl, hus⟩) (q := f + 1) rfl (by unfold maxLen; omega) (by omega) (fun A3 c3 w9 ap3 => ?_)
              have G9 := ap3.grown wc (Gw2.trans g3) ap2.own.baseB
              refine hK.out _ _ (Grow.both G9) (fun hHeld => ?_)
              clear hK K
              (try simp only [Act.put, List.setIfInBounds_toArray, List.set_cons_zero, List.set_cons_succ])
              ((refine tk 10 6 rfl rfl (v := ?_) ?_ ?_; rotate_left 1; (focus (intro w hSw; (try dsimp only at hSw); go_simp; (try with_reducible rfl); done)); all_goals (try simp only [Act.put, List.setIfInBounds_toArray, List.set_cons_zero, List.set_cons_succ])))
              refine wpAnyH_done (by kernel_rfl) ?_ _
              go_wp2
              go_roundw
              case rel => exact evRel_next (ap3.own.low gWC) rfl (by simp) (by omega) (by have := HFD.out; omega) HR2.out HX2.out HOK2.out
              case measure => simp [intOf]; omega
            · go_simp
              refine hK.out _ _ (Grow.both (by first | exact (g1.alloc _).drew | exact g1.alloc _)) (fun hHeld => ?_)
              clear hK K
              (try simp only [Act.put, List.setIfInBounds_toArray, List.set_cons_zero, List.set_cons_succ])
              generalize hV : World.alloc V1 _ = V2
              have g2 : Grow V1 V2 := by rw [← hV]; first | exact ((Grow.refl _).alloc _).drew | exact (Grow.refl _).alloc _
              have szV2 : V1.heap.size < V2.heap.size := by rw [← hV]; simp
              have BLK : V2.heap[V1.heap.size]? = some (.cells #[.int .i64 u.kind, .int .i64 u.n, .string u.s] 50 (0, 0)) := by rw [← hV]; exact new_block _ _
              clear hV
              refine wpAnyH_ready (rs := [6]) (by kernel_rfl) (by simp) ?_
              refine AllReadyH.cons rfl (fun K hK => ?_) AllReadyH.nil
              refine step_app plain_val ones_val elem_val (by rfl) (.tmp 94) (.tmp 99) (by rfl) (by rfl) (OWN0.grow g2) (by rfl) (isl.grow (g1.trans g2)) (q := f) (by omega) (by unfold maxLen; omega) (by omega) (fun A2 c2 w3 ap2 => ?_)
              have Gw3 := ap2.grown wc (g1.trans g2) OWN0.baseB
              refine hK.out _ _ (Grow.both Gw3) (fun hHeld => ?_)
              clear hK K
              (try simp only [Act.put, List.setIfInBounds_toArray, List.set_cons_zero, List.set_cons_succ])
              have BLK3 := (ap2.block _ szV2 (by simp only [blockOf, ne_eq, Option.some.injEq]; omega)).trans BLK
              refine wpAnyH_ready (rs := [9]) (by kernel_rfl) (by simp) ?_
              refine AllReadyH.cons rfl (fun K hK => ?_) AllReadyH.nil
              refine step_app plain_val ones_val elem_val (by rfl) (.tmp 100) (.tmp 102) (by rfl) (by rfl) ap2.own (by rfl) (isSl_one (by decide) BLK3 ⟨rfl, hus⟩) (q := f + 1) rfl (by unfold maxLen; omega) (by omega) (fun A3 c3 w9 ap3 => ?_)
              have G9 := ap3.grown wc Gw3 ap2.own.baseB
              refine hK.out _ _ (Grow.both G9) (fun hHeld => ?_)
              clear hK K
              (try simp only [Act.put, List.setIfInBounds_toArray, List.set_cons_zero, List.set_cons_succ])
              ((refine tk 10 6 rfl rfl (v := ?_) ?_ ?_; rotate_left 1; (focus (intro w hSw; (try dsimp only at hSw); go_simp; (try with_reducible rfl); done)); all_goals (try simp only [Act.put, List.setIfInBounds_toArray, List.set_cons_zero, List.set_cons_succ])))
              refine wpAnyH_done (by kernel_rfl) ?_ _
              go_wp2
              go_roundw
              case rel => exact evRel_next (ap3.own.low gWC) rfl (by simp) (by omega) (by have := HFD.out; omega) HR2.out HX2.out HOK2.out
              case measure => simp [intOf]; omega
          · go_simp
            refine hK.out _ _ (Grow.both (by first | exact (gcc.alloc _).drew | exact gcc.alloc _)) (fun hHeld => ?_)
            clear hK K
            (try simp only [Act.put, List.setIfInBounds_toArray, List.set_cons_zero, List.set_cons_succ])
            generalize hV : World.drew (World.alloc wc _) = V1
            have g1 : Grow wc V1 := by rw [← hV]; first | exact ((Grow.refl _).alloc _).drew | exact (Grow.refl _).alloc _
            have szV1 : wc.heap.size < V1.heap.size := by rw [← hV]; simp
            have BLK : V1.heap[wc.heap.size]? = some (.cells #[.int .i64 u.kind, .int .i64 u.n, .string u.s] 50 (0, 0)) := by rw [← hV]; exact new_block _ _
            clear hV
            refine wpAnyH_ready (rs := [0]) (by kernel_rfl) (by simp) ?_
            refine AllReadyH.cons rfl (fun K hK => ?_) AllReadyH.nil
            go_simp
            refine hK.out _ _ (Grow.both (by first | exact (g1.alloc _).drew | exact g1.alloc _)) (fun hHeld => ?_)
            clear hK K
            (try simp only [Act.put, List.setIfInBounds_toArray, List.set_cons_zero, List.set_cons_succ])
            generalize hV : World.alloc V1 _ = V2
            have g2 : Grow V1 V2 := by rw [← hV]; first | exact ((Grow.refl _).alloc _).drew | exact (Grow.refl _).alloc _
            have szV2 : V1.heap.size < V2.heap.size := by rw [← hV]; simp
            have OWN0 : OwnF Kd.val 50 wc V2 (some ⟨V1.heap.size, 0, none⟩) 0 0 [] := by rw [← hV]; first | exact (OwnF.made g1).grow (Grow.refl _).drew | exact OwnF.made g1
            clear hV
            refine wpAnyH_ready (rs := [6]) (by kernel_rfl) (by simp) ?_
            refine AllReadyH.cons rfl (fun K hK => ?_) AllReadyH.nil
            refine step_app plain_val ones_val elem_val (by rfl) (.tmp 94) (.tmp 99) (by rfl) (by rfl) OWN0 (by rfl) (isl.grow (g1.trans g2)) (q := f) (by omega) (by unfold maxLen; omega) (by omega) (fun A2 c2 w3 ap2 => ?_)
            have Gw3 := ap2.grown wc (g1.trans g2) OWN0.baseB
            refine hK.out _ _ (Grow.both Gw3) (fun hHeld => ?_)
            clear hK K
            (try simp only [Act.put, List.setIfInBounds_toArray, List.set_cons_zero, List.set_cons_succ])
            have BLK3 := (ap2.block _ (Nat.lt_of_lt_of_le szV1 g2.size) (by simp only [blockOf, ne_eq, Option.some.injEq]; omega)).trans ((g2.block szV1).trans BLK)
            refine wpAnyH_ready (rs := [9]) (by kernel_rfl) (by simp) ?_
            refine AllReadyH.cons rfl (fun K hK => ?_) AllReadyH.nil
            refine step_app plain_val ones_val elem_val (by rfl) (.tmp 100) (.tmp 102) (by rfl) (by rfl) ap2.own (by rfl) (isSl_one (by decide) BLK3 ⟨rfl, hus⟩) (q := f + 1) rfl (by unfold maxLen; omega) (by omega) (fun A3 c3 w9 ap3 => ?_)
            have G9 := ap3.grown wc Gw3 ap2.own.baseB
            refine hK.out _ _ (Grow.both G9) (fun hHeld => ?_)
            clear hK K
            (try simp only [Act.put, List.setIfInBounds_toArray, List.set_cons_zero, List.set_cons_succ])
            ((refine tk 10 6 rfl rfl (v := ?_) ?_ ?_; rotate_left 1; (focus (intro w hSw; (try dsimp only at hSw); go_simp; (try with_reducible rfl); done)); all_goals (try simp only [Act.put, List.setIfInBounds_toArray, List.set_cons_zero, List.set_cons_succ])))
            refine wpAnyH_done (by kernel_rfl) ?_ _
            go_wp2
            go_roundw
            case rel => exact evRel_next (ap3.own.low gWC) rfl (by simp) (by omega) (by have := HFD.out; omega) HR2.out HX2.out HOK2.out
            case measure => simp [intOf]; omega
        · have hno := Lib.hid (show evL e row = none by
            rw [evL, HO.out, HR.out, HXL.out, Bool.and_self, if_pos rfl, runV_none (k := k + 1) (by rw [HA.out, hrun.out, stepV, Option.bind_some, HST.out, HD.out, Int.toNat_natCast, show l - d = f by have := HFD.out; omega, ho2]; rfl)]; rfl)
          clear ho2
          go_wp2
          exact bodyPost_ret (v := .tuple #[.agg #[.int .i64 0, .int .i64 0, .string ⟨#[]⟩], .bool false]) (by simp [results, Tryz.results164, go_sem, hcW, k1, hs']) rfl (optE_none hno.out (by repeat (with_reducible first | exact Grow.refl _ | assumption | refine Grow.drew ?_ | refine Grow.alloc ?_ _ | refine Grow.set ?_ (by first | exact Nat.le_refl _ | (simp; done) | (simp; omega) | omega) _ | exact And.left (by assumption) | refine Grow.trans ?_ (by assumption))))
    · have hke : la ≤ k := by omega
      have het : e.take k = e := List.take_of_length_le (by rw [HE.out]; exact hke)
      have hr1 := hrun.out
      rw [het] at hr1
      have hx2 := hxr.out
      rw [het, HX1.out] at hx2
      have hl1 : st.length = 1 := by have := Option.some.inj hx2; omega
      obtain ⟨v, rfl⟩ := List.length_eq_one_iff.mp hl1
      have hev := Lib.hid (show evL e row = some v by rw [evL, HO.out, HR.out, HXL.out, Bool.and_self, if_pos rfl, hr1]; rfl)
      obtain rfl : l = 1 := hst.symm
      have hsl := own_isSl (S' := (· < wr.heap.size)) hown hf hst (fun _ h => h.elim) (fun _ _ h _ => h)
      obtain ⟨b, off, y, hA, hy, _, hb, hs, c0, c1, c2⟩ := val_at hsl (i := 0) (by omega)
      simp only [Option.some.injEq, Addr.mk.injEq, and_true] at hA
      obtain ⟨rfl, rfl⟩ := hA
      obtain rfl : v = y := Option.some.inj hy.out
      simp only [Nat.zero_mul, Nat.zero_add, Nat.add_zero] at c0 c1 c2
      have hcW := hG.same
      have hfW := hG.sameF
      clear hx2 hr1 het hrun hxr
      go_wp2
      exact bodyPost_ret (v := .tuple #[.agg #[.int .i64 v.kind, .int .i64 v.n, .string v.s], .bool true]) (by simp [results, Tryz.results164, go_sem, hcW, k1, hs']) rfl (optE_some hev.out (by repeat (with_reducible first | exact Grow.refl _ | assumption | refine Grow.drew ?_ | refine Grow.alloc ?_ _ | refine Grow.set ?_ (by first | exact Nat.le_refl _ | (simp; done) | (simp; omega) | omega) _ | exact And.left (by assumption) | refine Grow.trans ?_ (by assumption))))
/-- The parts of a right expression's test. -/
theorem evL_none {e : List Tok} {row : List Val} (h : (okVals row && exprL row.length e) = false) : evL e row = none := by rw [evL, h]; rfl
theorem l2Eval_some {A B : Option Addr} {la ca lb cb : Nat} {e : List Tok} {row : List Val} (w : World) (he : IsSl Kd.tok w (· < w.heap.size) A la ca e) (hr : IsSl Kd.val w (· < w.heap.size) B lb cb row)
    (ho : okVals row = true) (hxl : exprL lb e = true) {u : Val} (hu : evL e row = some u) : Calls Tryz.prog 164 #[.slice A la ca, .slice B lb cb] w (Ret w (.tuple #[.agg #[.int .i64 u.kind, .int .i64 u.n, .string u.s], .bool true])) :=
  (l2Eval_any w he hr ho hxl).mono fun e w' hv => by rw [hu] at hv; exact hv
theorem l2Eval_none {A B : Option Addr} {la ca lb cb : Nat} {e : List Tok} {row : List Val} (w : World) (he : IsSl Kd.tok w (· < w.heap.size) A la ca e) (hr : IsSl Kd.val w (· < w.heap.size) B lb cb row)
    (ho : okVals row = true) (hxl : exprL lb e = true) (hu : evL e row = none) : Calls Tryz.prog 164 #[.slice A la ca, .slice B lb cb] w (Ret w (.tuple #[.agg #[.int .i64 0, .int .i64 0, .string ⟨#[]⟩], .bool false])) :=
  (l2Eval_any w he hr ho hxl).mono fun e w' hv => by rw [hu] at hv; exact hv
theorem l2Truth_any {A B : Option Addr} {la ca lb cb : Nat} {e : List Tok} {row : List Val} (w : World) (he : IsSl Kd.tok w (· < w.heap.size) A la ca e) (hr : IsSl Kd.val w (· < w.heap.size) B lb cb row)
    (ho : okVals row = true) (hxl : exprL lb e = true) : Calls Tryz.prog 137 #[.slice A la ca, .slice B lb cb] w (Ret w (.int .i64 (trL e row))) := by
  have HO := Lib.hid ho
  have HXL := Lib.hid hxl
  clear ho hxl
  cases hv : evL e row with
  | none =>
    have ht := Lib.hid (show trL e row = -1 by rw [trL, hv])
    have HV := Lib.hid hv
    clear hv
    go_enter Tryz.func137, Tryz.ntmps137
    go_wp2_with fail
    refine (l2Eval_none _ he hr HO.out HXL.out HV.out).mono ?_
    rintro e1 w1 ⟨rfl, hb⟩
    go_wp2_with fail
    generalize hV : World.alloc w1 _ = V
    obtain ⟨gV, sV, bV⟩ := boxedB hV
    obtain ⟨kV, fV⟩ := free_of bV
    clear hV
    have hcur := Grow.refl V
    have hc := hcur.same
    go_wp2_with (first | (go_at_call 165; (with_reducible refine (l2Of_any _ _ _ _).mono ?_); rintro e w1 ⟨rfl, hb⟩; replace hcur := hcur.trans hb; replace hc := hcur.same; clear hb))
    go_ret
    exact ⟨ret_int ht.out.symm, hb.trans (gV.trans hcur)⟩
  | some u =>
    have HV := Lib.hid hv
    cases hok : ofOk u with
    | false =>
      have ht := Lib.hid (show trL e row = -1 by simp only [trL, hv]; rw [truthV_of, hok]; rfl)
      have HK := Lib.hid (show ofOk ⟨u.kind, u.n, u.s⟩ = false from hok)
      clear hv
      go_enter Tryz.func137, Tryz.ntmps137
      go_wp2_with fail
      refine (l2Eval_some _ he hr HO.out HXL.out HV.out).mono ?_
      rintro e1 w1 ⟨rfl, hb⟩
      go_wp2_with fail
      generalize hV : World.alloc w1 _ = V
      obtain ⟨gV, sV, bV⟩ := boxedB hV
      obtain ⟨kV, fV⟩ := free_of bV
      clear hV
      have hcur := Grow.refl V
      have hc := hcur.same
      refine (l2Of_any _ _ _ _).mono ?_
      rw [HK.out]
      rintro e1 w2 ⟨rfl, hb2⟩
      go_wp2
      go_ret
      exact ⟨ret_int ht.out.symm, hb.trans (gV.trans hb2)⟩
    | true =>
      have ht := Lib.hid (show trL e row = ofT ⟨u.kind, u.n, u.s⟩ by simp only [trL, hv]; rw [truthV_of, hok]; rfl)
      have HK := Lib.hid (show ofOk ⟨u.kind, u.n, u.s⟩ = true from hok)
      clear hv
      go_enter Tryz.func137, Tryz.ntmps137
      go_wp2_with fail
      refine (l2Eval_some _ he hr HO.out HXL.out HV.out).mono ?_
      rintro e1 w1 ⟨rfl, hb⟩
      go_wp2_with fail
      generalize hV : World.alloc w1 _ = V
      obtain ⟨gV, sV, bV⟩ := boxedB hV
      obtain ⟨kV, fV⟩ := free_of bV
      clear hV
      have hcur := Grow.refl V
      have hc := hcur.same
      refine (l2Of_any _ _ _ _).mono ?_
      rw [HK.out]
      rintro e1 w2 ⟨rfl, hb2⟩
      go_wp2
      go_ret
      exact ⟨ret_int ht.out.symm, hb.trans (gV.trans hb2)⟩
end Go.Proofs.YtjeilgogjoidjaaGreat
